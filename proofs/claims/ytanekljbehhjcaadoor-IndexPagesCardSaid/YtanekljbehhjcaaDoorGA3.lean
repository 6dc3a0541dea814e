/-
  Texts that lean on one another, laid in one file. No condition.
-/
import Derived.Test.YtanekljbehhjcaaDoorGA1
import Derived.Test.YtanekljbehhjcaaDoorGA2
import Derived.WideLaws
import Derived.Test.YtanekljbehhjcaaDoorWWords
import Derived.Deep.Slices
import Derived.ChangeArms
import Derived.ChangeSlices
import Derived.SizedLaws
import Derived.WideShapes
import Derived.Lib.LaidU8
import Derived.Shelf.Vars
namespace Go.Proofs.YtanekljbehhjcaaDoor.PX
open Go.RowKit Go.Proofs.YtanekljbehhjcaaDoorW.PrintWords Go.Proofs.YtanekljbehhjcaaDoorW.PrintLast Go.Proofs.YtanekljbehhjcaaDoorW.PrintMore
attribute [local go_sem] max2_int min2_int max_two min_two max_three min_three max_four min_four   -- for this text's walks alone
set_option linter.unusedVariables false
set_option linter.unusedSimpArgs false

/-! ### frisketref27_Spread: function 12 -/
mutual
def frisketref27_Spread.l0 : Nat → ByteArray → List ByteArray → List Int → Int → Option (List Int × Int)
  | 0, _, _, _, _ => none
  | k + 1, x0, x4, x5, x6 => if x6 < (x4.length : Int) then (if x6 > 0 then (if 0 ≤ x6 then (if (rdOf ByteArray.empty x4 x6).toList = ([] : List UInt8) then (some (([] : List Int), 4)) else (if 0 < ((rdOf ByteArray.empty x4 x6).size : Int) then (if (bt (rdOf ByteArray.empty x4 x6) 0) = 32 then (if 1 ≤ ((rdOf ByteArray.empty x4 x6).size : Int) then (frisketref27_Spread.j1 k x0 (x4.set (x6 : Int).toNat ((rdOf ByteArray.empty x4 x6).extract 1 (rdOf ByteArray.empty x4 x6).size)) x5 x6) else (none)) else (some (([] : List Int), 4))) else (none))) else (none)) else (frisketref27_Spread.j1 k x0 x4 x5 x6)) else ((frisketref27_pages.f k x5).bind fun t191 => (if t191.toList = x0.toList then (some (x5, 0)) else (some (([] : List Int), 4))))
def frisketref27_Spread.j1 : Nat → ByteArray → List ByteArray → List Int → Int → Option (List Int × Int)
  | 0, _, _, _, _ => none
  | k + 1, x0, x4, x5, x6 => if 0 ≤ x6 then (if x6 < (x4.length : Int) then ((frisketref07_Cut.f k (rdOf ByteArray.empty x4 x6) 45).bind fun t197 => (if 0 < (t197.length : Int) then ((frisketref07_Whole.f k (rdOf ByteArray.empty t197 0)).bind fun bt201 => (if 0 ≤ (wrap64 ((t197.length : Int) - 1)) then (if (wrap64 ((t197.length : Int) - 1)) < (t197.length : Int) then ((frisketref07_Whole.f k (rdOf ByteArray.empty t197 (wrap64 ((t197.length : Int) - 1)))).bind fun bt204 => (if bt201.2 = true then (if bt204.2 = true then (if (t197.length : Int) > 2 then (frisketref27_Spread.j2 k x0 x4 x5 x6 bt201.1 bt204.1 true) else (if bt201.1 < 0 then (frisketref27_Spread.j2 k x0 x4 x5 x6 bt201.1 bt204.1 true) else (if bt204.1 > 1000000 then (frisketref27_Spread.j2 k x0 x4 x5 x6 bt201.1 bt204.1 true) else (frisketref27_Spread.j2 k x0 x4 x5 x6 bt201.1 bt204.1 (decide (bt201.1 > bt204.1)))))) else (frisketref27_Spread.j2 k x0 x4 x5 x6 bt201.1 bt204.1 true)) else (frisketref27_Spread.j2 k x0 x4 x5 x6 bt201.1 bt204.1 true))) else (none)) else (none))) else (none))) else (none)) else (none)
def frisketref27_Spread.j2 : Nat → ByteArray → List ByteArray → List Int → Int → Int → Int → Bool → Option (List Int × Int)
  | 0, _, _, _, _, _, _, _ => none
  | k + 1, x0, x4, x5, x6, x8, x10, x91 => if x91 = true then (some (([] : List Int), 4)) else (if (x5.length : Int) > 0 then (if 0 ≤ (wrap64 ((x5.length : Int) - 1)) then (if (wrap64 ((x5.length : Int) - 1)) < (x5.length : Int) then (frisketref27_Spread.j3 k x0 x4 x5 x6 x8 x10 (decide (x8 ≤ (rd x5 (wrap64 ((x5.length : Int) - 1)))))) else (none)) else (none)) else (frisketref27_Spread.j3 k x0 x4 x5 x6 x8 x10 false))
def frisketref27_Spread.j3 : Nat → ByteArray → List ByteArray → List Int → Int → Int → Int → Bool → Option (List Int × Int)
  | 0, _, _, _, _, _, _, _ => none
  | k + 1, x0, x4, x5, x6, x8, x10, x104 => if x104 = true then (some (([] : List Int), 4)) else (frisketref27_Spread.l1 k x0 x4 x5 x6 x10 x8)
def frisketref27_Spread.l1 : Nat → ByteArray → List ByteArray → List Int → Int → Int → Int → Option (List Int × Int)
  | 0, _, _, _, _, _, _ => none
  | k + 1, x0, x4, x5, x6, x10, x12 => if x12 ≤ x10 then (if x5.length < 17592186044416 then (frisketref27_Spread.l1 k x0 x4 (x5 ++ [x12]) x6 x10 (wrap64 (x12 + 1))) else (none)) else (frisketref27_Spread.l0 k x0 x4 x5 (wrap64 (x6 + 1)))
end
def frisketref27_Spread.f (k : Nat) (a0 : ByteArray) : Option (List Int × Int) := if a0.toList = ([] : List UInt8) then (some (([] : List Int), 0)) else ((frisketref07_Cut.f k a0 44).bind fun t188 => (frisketref27_Spread.l0 k a0 t188 ([] : List Int) 0))
theorem frisketref27_Spread.mono_l : ∀ k, (∀ y0 y1 y2 y3, LeO (frisketref27_Spread.l0 k y0 y1 y2 y3) (frisketref27_Spread.l0 (k + 1) y0 y1 y2 y3)) ∧ (∀ y0 y1 y2 y3, LeO (frisketref27_Spread.j1 k y0 y1 y2 y3) (frisketref27_Spread.j1 (k + 1) y0 y1 y2 y3)) ∧ (∀ y0 y1 y2 y3 y4 y5 y6, LeO (frisketref27_Spread.j2 k y0 y1 y2 y3 y4 y5 y6) (frisketref27_Spread.j2 (k + 1) y0 y1 y2 y3 y4 y5 y6)) ∧ (∀ y0 y1 y2 y3 y4 y5 y6, LeO (frisketref27_Spread.j3 k y0 y1 y2 y3 y4 y5 y6) (frisketref27_Spread.j3 (k + 1) y0 y1 y2 y3 y4 y5 y6)) ∧ (∀ y0 y1 y2 y3 y4 y5, LeO (frisketref27_Spread.l1 k y0 y1 y2 y3 y4 y5) (frisketref27_Spread.l1 (k + 1) y0 y1 y2 y3 y4 y5))
  | 0 => ⟨fun _ _ _ _ r h => by simp [frisketref27_Spread.l0] at h, fun _ _ _ _ r h => by simp [frisketref27_Spread.j1] at h, fun _ _ _ _ _ _ _ r h => by simp [frisketref27_Spread.j2] at h, fun _ _ _ _ _ _ _ r h => by simp [frisketref27_Spread.j3] at h, fun _ _ _ _ _ _ r h => by simp [frisketref27_Spread.l1] at h⟩
  | k + 1 => by
    obtain ⟨ih0, ih1, ih2, ih3, ih4⟩ := frisketref27_Spread.mono_l k
    refine ⟨?_, ?_, ?_, ?_, ?_⟩
    · intro y0 y1 y2 y3
      unfold frisketref27_Spread.l0
      repeat' first
      | (with_reducible exact ih0 _ _ _ _)
      | (with_reducible exact ih1 _ _ _ _)
      | (with_reducible exact ih2 _ _ _ _ _ _ _)
      | (with_reducible exact ih3 _ _ _ _ _ _ _)
      | (with_reducible exact ih4 _ _ _ _ _ _)
      | (with_reducible exact frisketref07_Cut.mono _ _ _)
      | (with_reducible exact frisketref07_Whole.mono _ _)
      | (with_reducible exact frisketref27_pages.mono _ _)
      | (with_reducible exact LeO.refl _)
      | (with_reducible exact LeO.none _)
      | (with_reducible refine LeO.ite ?_ ?_)
      | (with_reducible refine LeO.bind ?_ (fun _ => ?_))
      | exact ih0 _ _ _ _
      | exact ih1 _ _ _ _
      | exact ih2 _ _ _ _ _ _ _
      | exact ih3 _ _ _ _ _ _ _
      | exact ih4 _ _ _ _ _ _
      | exact frisketref07_Cut.mono _ _ _
      | exact frisketref07_Whole.mono _ _
      | exact frisketref27_pages.mono _ _
      | exact LeO.none _
      | refine LeO.ite ?_ ?_
      | refine LeO.bind ?_ (fun _ => ?_)
    · intro y0 y1 y2 y3
      unfold frisketref27_Spread.j1
      repeat' first
      | (with_reducible exact ih0 _ _ _ _)
      | (with_reducible exact ih1 _ _ _ _)
      | (with_reducible exact ih2 _ _ _ _ _ _ _)
      | (with_reducible exact ih3 _ _ _ _ _ _ _)
      | (with_reducible exact ih4 _ _ _ _ _ _)
      | (with_reducible exact frisketref07_Cut.mono _ _ _)
      | (with_reducible exact frisketref07_Whole.mono _ _)
      | (with_reducible exact frisketref27_pages.mono _ _)
      | (with_reducible exact LeO.refl _)
      | (with_reducible exact LeO.none _)
      | (with_reducible refine LeO.ite ?_ ?_)
      | (with_reducible refine LeO.bind ?_ (fun _ => ?_))
      | exact ih0 _ _ _ _
      | exact ih1 _ _ _ _
      | exact ih2 _ _ _ _ _ _ _
      | exact ih3 _ _ _ _ _ _ _
      | exact ih4 _ _ _ _ _ _
      | exact frisketref07_Cut.mono _ _ _
      | exact frisketref07_Whole.mono _ _
      | exact frisketref27_pages.mono _ _
      | exact LeO.none _
      | refine LeO.ite ?_ ?_
      | refine LeO.bind ?_ (fun _ => ?_)
    · intro y0 y1 y2 y3 y4 y5 y6
      unfold frisketref27_Spread.j2
      repeat' first
      | (with_reducible exact ih0 _ _ _ _)
      | (with_reducible exact ih1 _ _ _ _)
      | (with_reducible exact ih2 _ _ _ _ _ _ _)
      | (with_reducible exact ih3 _ _ _ _ _ _ _)
      | (with_reducible exact ih4 _ _ _ _ _ _)
      | (with_reducible exact frisketref07_Cut.mono _ _ _)
      | (with_reducible exact frisketref07_Whole.mono _ _)
      | (with_reducible exact frisketref27_pages.mono _ _)
      | (with_reducible exact LeO.refl _)
      | (with_reducible exact LeO.none _)
      | (with_reducible refine LeO.ite ?_ ?_)
      | (with_reducible refine LeO.bind ?_ (fun _ => ?_))
      | exact ih0 _ _ _ _
      | exact ih1 _ _ _ _
      | exact ih2 _ _ _ _ _ _ _
      | exact ih3 _ _ _ _ _ _ _
      | exact ih4 _ _ _ _ _ _
      | exact frisketref07_Cut.mono _ _ _
      | exact frisketref07_Whole.mono _ _
      | exact frisketref27_pages.mono _ _
      | exact LeO.none _
      | refine LeO.ite ?_ ?_
      | refine LeO.bind ?_ (fun _ => ?_)
    · intro y0 y1 y2 y3 y4 y5 y6
      unfold frisketref27_Spread.j3
      repeat' first
      | (with_reducible exact ih0 _ _ _ _)
      | (with_reducible exact ih1 _ _ _ _)
      | (with_reducible exact ih2 _ _ _ _ _ _ _)
      | (with_reducible exact ih3 _ _ _ _ _ _ _)
      | (with_reducible exact ih4 _ _ _ _ _ _)
      | (with_reducible exact frisketref07_Cut.mono _ _ _)
      | (with_reducible exact frisketref07_Whole.mono _ _)
      | (with_reducible exact frisketref27_pages.mono _ _)
      | (with_reducible exact LeO.refl _)
      | (with_reducible exact LeO.none _)
      | (with_reducible refine LeO.ite ?_ ?_)
      | (with_reducible refine LeO.bind ?_ (fun _ => ?_))
      | exact ih0 _ _ _ _
      | exact ih1 _ _ _ _
      | exact ih2 _ _ _ _ _ _ _
      | exact ih3 _ _ _ _ _ _ _
      | exact ih4 _ _ _ _ _ _
      | exact frisketref07_Cut.mono _ _ _
      | exact frisketref07_Whole.mono _ _
      | exact frisketref27_pages.mono _ _
      | exact LeO.none _
      | refine LeO.ite ?_ ?_
      | refine LeO.bind ?_ (fun _ => ?_)
    · intro y0 y1 y2 y3 y4 y5
      unfold frisketref27_Spread.l1
      repeat' first
      | (with_reducible exact ih0 _ _ _ _)
      | (with_reducible exact ih1 _ _ _ _)
      | (with_reducible exact ih2 _ _ _ _ _ _ _)
      | (with_reducible exact ih3 _ _ _ _ _ _ _)
      | (with_reducible exact ih4 _ _ _ _ _ _)
      | (with_reducible exact frisketref07_Cut.mono _ _ _)
      | (with_reducible exact frisketref07_Whole.mono _ _)
      | (with_reducible exact frisketref27_pages.mono _ _)
      | (with_reducible exact LeO.refl _)
      | (with_reducible exact LeO.none _)
      | (with_reducible refine LeO.ite ?_ ?_)
      | (with_reducible refine LeO.bind ?_ (fun _ => ?_))
      | exact ih0 _ _ _ _
      | exact ih1 _ _ _ _
      | exact ih2 _ _ _ _ _ _ _
      | exact ih3 _ _ _ _ _ _ _
      | exact ih4 _ _ _ _ _ _
      | exact frisketref07_Cut.mono _ _ _
      | exact frisketref07_Whole.mono _ _
      | exact frisketref27_pages.mono _ _
      | exact LeO.none _
      | refine LeO.ite ?_ ?_
      | refine LeO.bind ?_ (fun _ => ?_)
theorem frisketref27_Spread.mono : ∀ a0 k, LeO (frisketref27_Spread.f k a0) (frisketref27_Spread.f (k + 1) a0) := by
  intro a0 k
  obtain ⟨ih0, ih1, ih2, ih3, ih4⟩ := frisketref27_Spread.mono_l k
  unfold frisketref27_Spread.f
  repeat' first
      | (with_reducible exact ih0 _ _ _ _)
      | (with_reducible exact ih1 _ _ _ _)
      | (with_reducible exact ih2 _ _ _ _ _ _ _)
      | (with_reducible exact ih3 _ _ _ _ _ _ _)
      | (with_reducible exact ih4 _ _ _ _ _ _)
      | (with_reducible exact frisketref07_Cut.mono _ _ _)
      | (with_reducible exact frisketref07_Whole.mono _ _)
      | (with_reducible exact frisketref27_pages.mono _ _)
      | (with_reducible exact LeO.refl _)
      | (with_reducible exact LeO.none _)
      | (with_reducible refine LeO.ite ?_ ?_)
      | (with_reducible refine LeO.bind ?_ (fun _ => ?_))
      | exact ih0 _ _ _ _
      | exact ih1 _ _ _ _
      | exact ih2 _ _ _ _ _ _ _
      | exact ih3 _ _ _ _ _ _ _
      | exact ih4 _ _ _ _ _ _
      | exact frisketref07_Cut.mono _ _ _
      | exact frisketref07_Whole.mono _ _
      | exact frisketref27_pages.mono _ _
      | exact LeO.none _
      | refine LeO.ite ?_ ?_
      | refine LeO.bind ?_ (fun _ => ?_)
set_option maxHeartbeats 8000000 in
set_option maxRecDepth 100000 in
theorem frisketref27_Spread.calls (k : Nat) (a0 : ByteArray) (r1 : List Int) (r2 : Int) (w : World) (h : frisketref27_Spread.f k a0 = some (r1, r2)) :
    Calls Tryd.prog 12 #[.string a0] w fun e w' => ∃ v0_ : Value, e = .returned (.tuple #[v0_, .int .i64 r2]) ∧ Kd.R (Kd.int .i64) 3 w' w.heap.size (fun _ => True) v0_ r1 ∧ Below w.heap.size w w' := by
  have HB := Aside0.mk (Below.refl w.heap.size w)
  have H : (if a0.toList = ([] : List UInt8) then (some (([] : List Int), 0)) else ((frisketref07_Cut.f k a0 44).bind fun t188 => (frisketref27_Spread.l0 k a0 t188 ([] : List Int) 0))) = some (r1, r2) := h
  clear h
  by_cases c2 : a0.toList = ([] : List UInt8)
  · rw [if_pos c2] at H
    have c2b0 : (a0.toList == ([] : List UInt8)) = true := beq_iff_eq.mpr c2
    have c2e0 : (!(a0).toList.isEmpty) = false := by rw [List.isEmpty_iff.mpr c2]; rfl
    have c2b1 : (a0.toList != ([] : List UInt8)) = false := bne_eq_false_iff_eq.mpr c2
    clear c2
    simp only [Option.some.injEq, Prod.mk.injEq] at H
    obtain ⟨rfl, rfl⟩ := H
    go_enter Tryd.func12, Tryd.ntmps12
    go_wp2
    go_ret2
    exact ⟨_, by first | rfl | (simp [errW_none, errW_some] <;> rfl) | (simp [*, errW_none, errW_some] <;> rfl), by first | exact Kd.R_nil _ _ _ _ _ | exact Kd.N_nil _ _ _ _ _ | exact Kd.V_nil _ _ _ _ _ | exact Kd.Q_nil _ _ _ _ _ | exact Kd.S_nil _ _ _ _ _, by repeat (first | (with_reducible first | exact HB.out | apply below_alloc | apply pw_below_drewN | apply below_drew1) | exact HB.out)⟩
  · rw [if_neg c2] at H
    have c2b0 : (a0.toList == ([] : List UInt8)) = false := beq_eq_false_iff_ne.mpr c2
    have c2e0 : (!(a0).toList.isEmpty) = true := by rw [List.isEmpty_eq_false_iff.mpr c2]; rfl
    have c2b1 : (a0.toList != ([] : List UInt8)) = true := bne_iff_ne.mpr c2
    replace H := Option.bind_eq_some_iff.mp H
    obtain ⟨t188, A30, H⟩ := H
    replace H : (frisketref27_Spread.l0 k a0 t188 ([] : List Int) 0) = some (r1, r2) := H
    have A3 := Aside0.mk A30
    clear A30
    have H' := Aside0.mk H
    clear H
    go_enter Tryd.func12, Tryd.ntmps12
    go_wp2_with (first | ((with_reducible refine gate_callee (f := 30) rfl ?_); refine goesL_ (some 16) rfl rfl Tryd.func30 (by kernel_rfl) rfl #[.string a0, .int .u8 44] rfl (by (try simp only [List.map_toArray, List.map_cons, List.map_nil]); first | done | rfl | (simp only [List.length_drop, List.length_take]; rfl)) ?_; (with_reducible refine (frisketref07_Cut.calls k a0 44 t188 _ A3.out).mono ?_); rintro e w4 ⟨v189, rfl, ho0, hb⟩; refine ⟨_, rfl, ?_⟩; have n0_ := Aside0.mk (Kd.R_lower ho0 (below_size (by repeat (first | (with_reducible first | exact HB.out | apply below_alloc | apply pw_below_drewN | apply below_drew1) | exact HB.out)))); have n1_ := Aside0.mk (below_step (by repeat (first | (with_reducible first | exact HB.out | apply below_alloc | apply pw_below_drewN | apply below_drew1) | exact HB.out)) hb); clear HB; have HO190 := n0_; have HB := n1_; clear n0_ n1_; (try clear hb); (try clear hb2); (try clear hk); (try clear hi); (try clear ho0)))
    go_loopg [5, 6] k (fun kq v5 v6 w' => ∃ (x4_1 : List ByteArray) (x5_1 : List Int) (x6_1 : Int), v6 = .int .i64 x6_1 ∧ Aside0 (frisketref27_Spread.l0 kq a0 x4_1 x5_1 x6_1 = some (r1, r2)) ∧ Aside0 (kq ≤ k) ∧ Aside0 (Kd.R Kd.string 9 w' w.heap.size (fun _ => True) v189 x4_1) ∧ Aside0 (Kd.R (Kd.int .i64) 3 w' w.heap.size (fun _ => True) v5 x5_1) ∧ Aside0 (Below w.heap.size w w'))
    case atStart => exact ⟨(t188), (([] : List Int)), (0), (by first | rfl | (simp; done) | (simp [*]; done)), H', ⟨Nat.le_refl _⟩, ⟨by (with_reducible repeat (first | apply Kd.R_alloc | apply Kd.R_drewN | apply Kd.R_drew)); exact HO190.out⟩, ⟨by first | exact Kd.R_nil _ _ _ _ _ | exact Kd.N_nil _ _ _ _ _ | exact Kd.V_nil _ _ _ _ _ | exact Kd.Q_nil _ _ _ _ _ | exact Kd.S_nil _ _ _ _ _⟩, ⟨by repeat (first | (with_reducible first | exact HB.out | apply below_alloc | apply pw_below_drewN | apply below_drew1) | exact HB.out)⟩⟩
    case round =>
      clear H'
      try clear c1
      try clear c2
      try clear c2b0
      try clear c2b1
      try clear p2
      try clear c3
      obtain ⟨x4_1, x5_1, x6_1, rfl, HA, HK1, HO_4, HO_5, HB⟩ := hrel
      cases gk with
      | zero => exact absurd HA.out (by simp [frisketref27_Spread.l0])
      | succ k1 =>
        have H := HA.out
        clear HA
        simp only [frisketref27_Spread.l0] at H
        by_cases c5 : x6_1 < (x4_1.length : Int)
        · rw [if_pos c5] at H
          have c5b0 : decide (x6_1 < (x4_1.length : Int)) = true := decide_eq_true c5
          clear c5
          have HC6 := Aside0.mk H
          clear H
          obtain ⟨Ao7, co7, eo7⟩ := Kd.R_slice HO_4.out
          subst eo7
          go_upto_if 24 with (fail)
          go_cut [] (fun wc => ∃ (kq : Nat) (x4_5 : List ByteArray), Aside0 (frisketref27_Spread.j1 kq a0 x4_5 x5_1 x6_1 = some (r1, r2)) ∧ Aside0 (kq ≤ k1) ∧ Aside0 (Kd.R Kd.string 9 wc w.heap.size (fun _ => True) (.slice Ao7 x4_1.length co7) x4_5) ∧ Aside0 (Kd.R (Kd.int .i64) 3 wc w.heap.size (fun _ => True) u5 x5_1) ∧ Aside0 (Below w.heap.size w wc))
          case first =>
            have H := HC6.out
            clear HC6
            by_cases c8 : x6_1 > 0
            · rw [if_pos c8] at H
              have c8b0 : decide (0 < x6_1) = true := decide_eq_true c8
              clear c8
              (first | rw [c8b0] | (simp only [i64_w, i32_w]; rw [c8b0]) | skip)
              by_cases c9 : 0 ≤ x6_1
              · rw [if_pos c9] at H
                have c9b0 : decide (0 ≤ x6_1) = true := decide_eq_true c9
                clear c9
                by_cases c10 : (rdOf ByteArray.empty x4_1 x6_1).toList = ([] : List UInt8)
                · rw [if_pos c10] at H
                  have c10b0 : ((rdOf ByteArray.empty x4_1 x6_1).toList == ([] : List UInt8)) = true := beq_iff_eq.mpr c10
                  have c10e0 : (!((rdOf ByteArray.empty x4_1 x6_1)).toList.isEmpty) = false := by rw [List.isEmpty_iff.mpr c10]; rfl
                  have c10b1 : ((rdOf ByteArray.empty x4_1 x6_1).toList != ([] : List UInt8)) = false := bne_eq_false_iff_eq.mpr c10
                  clear c10
                  simp only [Option.some.injEq, Prod.mk.injEq] at H
                  obtain ⟨rfl, rfl⟩ := H
                  have p192 : 0 ≤ (x6_1 : Int) := of_decide_eq_true (by first | (with_reducible assumption) | assumption)
                  have q192 : x6_1 < (x4_1.length : Int) := of_decide_eq_true (by first | (with_reducible assumption) | assumption)
                  obtain ⟨ad192, e192, hx192_0⟩ := Kd.at_string (Kd.R_reads' HO_4.out).2.2 x6_1 p192 q192
                  cases e192
                  replace p192 := eq_true p192
                  replace q192 := eq_true q192
                  go_wp2
                  go_ret2
                  exact ⟨_, by first | rfl | (simp [errW_none, errW_some] <;> rfl) | (simp [*, errW_none, errW_some] <;> rfl), by first | exact Kd.R_nil _ _ _ _ _ | exact Kd.N_nil _ _ _ _ _ | exact Kd.V_nil _ _ _ _ _ | exact Kd.Q_nil _ _ _ _ _ | exact Kd.S_nil _ _ _ _ _, by repeat (first | (with_reducible first | exact HB.out | apply below_alloc | apply pw_below_drewN | apply below_drew1) | exact HB.out)⟩
                · rw [if_neg c10] at H
                  have c10b0 : ((rdOf ByteArray.empty x4_1 x6_1).toList == ([] : List UInt8)) = false := beq_eq_false_iff_ne.mpr c10
                  have c10e0 : (!((rdOf ByteArray.empty x4_1 x6_1)).toList.isEmpty) = true := by rw [List.isEmpty_eq_false_iff.mpr c10]; rfl
                  have c10b1 : ((rdOf ByteArray.empty x4_1 x6_1).toList != ([] : List UInt8)) = true := bne_iff_ne.mpr c10
                  by_cases c11 : 0 < ((rdOf ByteArray.empty x4_1 x6_1).size : Int)
                  · rw [if_pos c11] at H
                    have c11b0 : decide (0 < ((rdOf ByteArray.empty x4_1 x6_1).size : Int)) = true := decide_eq_true c11
                    have c11b1 : decide (0 < (rdOf ByteArray.empty x4_1 x6_1).size) = true := decide_eq_true (by omega)
                    clear c11
                    by_cases c13 : (bt (rdOf ByteArray.empty x4_1 x6_1) 0) = 32
                    · rw [if_pos c13] at H
                      have c13b0 : ((bt (rdOf ByteArray.empty x4_1 x6_1) 0) == 32) = true := beq_iff_eq.mpr c13
                      have c13b1 : ((bt (rdOf ByteArray.empty x4_1 x6_1) 0) != 32) = false := bne_eq_false_iff_eq.mpr c13
                      clear c13
                      by_cases c14 : 1 ≤ ((rdOf ByteArray.empty x4_1 x6_1).size : Int)
                      · rw [if_pos c14] at H
                        have c14b0 := eq_true c14
                        have c14b1 : decide (1 ≤ ((rdOf ByteArray.empty x4_1 x6_1).size : Int)) = true := decide_eq_true c14
                        clear c14
                        obtain ⟨y195, hy195⟩ : ∃ y_ : List ByteArray, y_ = (x4_1.set (x6_1 : Int).toNat ((rdOf ByteArray.empty x4_1 x6_1).extract 1 (rdOf ByteArray.empty x4_1 x6_1).size)) := ⟨_, rfl⟩
                        replace H : (frisketref27_Spread.j1 k1 a0 y195 x5_1 x6_1) = some (r1, r2) := by first | (rw [hy195]; with_reducible exact H) | (have H2_ := (Option.bind_some _ _).symm.trans H; rw [hy195]; with_reducible exact H2_) | (have H2_ := (Option.bind_some _ _).symm.trans H; with_reducible exact H2_) | with_reducible exact H | (rw [hy195]; exact H) | exact H
                        have Ny195 := Aside0.mk hy195
                        clear hy195
                        have H' := Aside0.mk H
                        clear H
                        have p192 : 0 ≤ (x6_1 : Int) := of_decide_eq_true (by first | (with_reducible assumption) | assumption)
                        have q192 : x6_1 < (x4_1.length : Int) := of_decide_eq_true (by first | (with_reducible assumption) | assumption)
                        obtain ⟨ad192, e192, hx192_0⟩ := Kd.at_string (Kd.R_reads' HO_4.out).2.2 x6_1 p192 q192
                        cases e192
                        replace p192 := eq_true p192
                        replace q192 := eq_true q192
                        have p193 : 0 ≤ (x6_1 : Int) := of_decide_eq_true (by first | (with_reducible assumption) | assumption)
                        have q193 : x6_1 < (x4_1.length : Int) := of_decide_eq_true (by first | (with_reducible assumption) | assumption)
                        obtain ⟨ad193, e193, hx193_0⟩ := Kd.at_string (Kd.R_reads' HO_4.out).2.2 x6_1 p193 q193
                        obtain rfl : ad192 = ad193 := (by injection e193)
                        replace p193 := eq_true p193
                        replace q193 := eq_true q193
                        have p12 : 0 ≤ (0 : Int) := (by omega)
                        have q12 : 0 < (rdOf ByteArray.empty x4_1 x6_1).size := (by have : (0 : Int) < ((rdOf ByteArray.empty x4_1 x6_1).size : Int) := of_decide_eq_true (by first | (with_reducible assumption) | assumption); omega)
                        have hx12 : ∀ h : 0 < (rdOf ByteArray.empty x4_1 x6_1).size, (((rdOf ByteArray.empty x4_1 x6_1)[0]'h).toNat : Int) = bt (rdOf ByteArray.empty x4_1 x6_1) 0 := bt_at (rdOf ByteArray.empty x4_1 x6_1) 0
                        clear p12
                        have qi12 : (0 < ((rdOf ByteArray.empty x4_1 x6_1).size : Int)) = True := eq_true (of_decide_eq_true (by first | (with_reducible assumption) | assumption))
                        replace q12 := eq_true q12
                        have p194 : 0 ≤ (x6_1 : Int) := of_decide_eq_true (by first | (with_reducible assumption) | assumption)
                        have q194 : x6_1 < (x4_1.length : Int) := of_decide_eq_true (by first | (with_reducible assumption) | assumption)
                        obtain ⟨ad194, e194, hx194_0⟩ := Kd.at_string (Kd.R_reads' HO_4.out).2.2 x6_1 p194 q194
                        obtain rfl : ad192 = ad194 := (by injection e194)
                        replace p194 := eq_true p194
                        replace q194 := eq_true q194
                        have p15 : 0 ≤ (x6_1 : Int) := of_decide_eq_true (by first | (with_reducible assumption) | assumption)
                        have q15 : (x6_1 : Int) < ((x4_1.length : Int) : Int) := of_decide_eq_true (by first | (with_reducible assumption) | assumption)
                        obtain ⟨go15, co15, eo15, gb15, gl15, cl15, HG15⟩ := Kd.R_form HO_4.out (by omega)
                        (first | cases eo15 | (injection eo15 with ea_ en_ ec_; (first | subst ea_ | (injection ea_ with ea_; subst ea_)); subst ec_; clear en_))
                        have GB15 := Aside0.mk gb15
                        have GG15 := Aside0.mk HG15
                        clear gb15 gl15 HG15
                        (first | simp only [add_plain] at hx192_0 | skip)
                        (first | simp only [add_plain] at hx193_0 | skip)
                        (first | simp only [add_plain] at hx194_0 | skip)
                        obtain ⟨hx15_0, hf15_0⟩ := Kd.R_celln (⟨#[]⟩ : ByteArray) HO_4.out (x6_1 : Int) p15 q15
                        replace p15 := eq_true p15
                        replace q15 := eq_true q15
                        have HP16 := Kd.R_putg HO_4.out (x6_1 : Int) ((rdOf ByteArray.empty x4_1 x6_1).extract 1 (rdOf ByteArray.empty x4_1 x6_1).size)
                        go_wp2_with (first | ((with_reducible refine gate_store (t := 9) (p := 45) rfl ?_); refine store_event (t := 9) (p := 45) (v := ?vo_w17) (w1 := (wr.setCell ⟨go15, (x6_1 : Int).toNat, none⟩ (.string ((rdOf ByteArray.empty x4_1 x6_1).extract 1 (rdOf ByteArray.empty x4_1 x6_1).size)))) ?hg ?ho ?hn ?hr ?_; (case ho => rfl); (case hg => rfl); (case hn => rfl); (case hr => first | (go_simp; done) | (go_simp; rfl)); intro w17 hw; have hg : wr.grownBy w17 (some go15) := (by rw [hw]; exact HP16.2); have hp_ : Kd.R Kd.string 9 w17 w.heap.size (fun _ => True) (.slice (some ⟨go15, 0, none⟩) x4_1.length co7) y195 := (by rw [hw, Ny195.out]; exact HP16.1); clear HP16; have n0_ := Aside0.mk (hp_); have n1_ := Aside0.mk (Kd.R_over' (v := (.slice (some ⟨go15, 0, none⟩) x4_1.length co7)) (by (with_reducible repeat (first | apply Kd.R_alloc | apply Kd.R_drewN | apply Kd.R_drew)); exact HO_5.out) (Kd.R_typed HO_4.out) (by decide) hg); have n2_ := Aside0.mk ((by rw [hw]; exact below_set (HB.out) GB15.out : Below w.heap.size w w17)); clear HO_4; clear HO_5; clear HB; have HO_4 := n0_; have HO_5 := n1_; have HB := n2_; clear n0_ n1_ n2_; clear hg hw hp_))
                        go_meet
                        case rel => exact ⟨_, (y195), H', ⟨by have := HK1.out; first | omega | exact Nat.le_refl _⟩, ⟨by (with_reducible repeat (first | apply Kd.R_alloc | apply Kd.R_drewN | apply Kd.R_drew)); exact HO_4.out⟩, ⟨by (with_reducible repeat (first | apply Kd.R_alloc | apply Kd.R_drewN | apply Kd.R_drew)); exact HO_5.out⟩, ⟨by repeat (first | (with_reducible first | exact HB.out | apply below_alloc | apply pw_below_drewN | apply below_drew1) | exact HB.out)⟩⟩
                      · rw [if_neg c14] at H
                        exact absurd H (by simp)
                    · rw [if_neg c13] at H
                      have c13b0 : ((bt (rdOf ByteArray.empty x4_1 x6_1) 0) == 32) = false := beq_eq_false_iff_ne.mpr c13
                      have c13b1 : ((bt (rdOf ByteArray.empty x4_1 x6_1) 0) != 32) = true := bne_iff_ne.mpr c13
                      simp only [Option.some.injEq, Prod.mk.injEq] at H
                      obtain ⟨rfl, rfl⟩ := H
                      have p192 : 0 ≤ (x6_1 : Int) := of_decide_eq_true (by first | (with_reducible assumption) | assumption)
                      have q192 : x6_1 < (x4_1.length : Int) := of_decide_eq_true (by first | (with_reducible assumption) | assumption)
                      obtain ⟨ad192, e192, hx192_0⟩ := Kd.at_string (Kd.R_reads' HO_4.out).2.2 x6_1 p192 q192
                      cases e192
                      replace p192 := eq_true p192
                      replace q192 := eq_true q192
                      have p193 : 0 ≤ (x6_1 : Int) := of_decide_eq_true (by first | (with_reducible assumption) | assumption)
                      have q193 : x6_1 < (x4_1.length : Int) := of_decide_eq_true (by first | (with_reducible assumption) | assumption)
                      obtain ⟨ad193, e193, hx193_0⟩ := Kd.at_string (Kd.R_reads' HO_4.out).2.2 x6_1 p193 q193
                      obtain rfl : ad192 = ad193 := (by injection e193)
                      replace p193 := eq_true p193
                      replace q193 := eq_true q193
                      have p12 : 0 ≤ (0 : Int) := (by omega)
                      have q12 : 0 < (rdOf ByteArray.empty x4_1 x6_1).size := (by have : (0 : Int) < ((rdOf ByteArray.empty x4_1 x6_1).size : Int) := of_decide_eq_true (by first | (with_reducible assumption) | assumption); omega)
                      have hx12 : ∀ h : 0 < (rdOf ByteArray.empty x4_1 x6_1).size, (((rdOf ByteArray.empty x4_1 x6_1)[0]'h).toNat : Int) = bt (rdOf ByteArray.empty x4_1 x6_1) 0 := bt_at (rdOf ByteArray.empty x4_1 x6_1) 0
                      clear p12
                      have qi12 : (0 < ((rdOf ByteArray.empty x4_1 x6_1).size : Int)) = True := eq_true (of_decide_eq_true (by first | (with_reducible assumption) | assumption))
                      replace q12 := eq_true q12
                      go_wp2
                      go_ret2
                      exact ⟨_, by first | rfl | (simp [errW_none, errW_some] <;> rfl) | (simp [*, errW_none, errW_some] <;> rfl), by first | exact Kd.R_nil _ _ _ _ _ | exact Kd.N_nil _ _ _ _ _ | exact Kd.V_nil _ _ _ _ _ | exact Kd.Q_nil _ _ _ _ _ | exact Kd.S_nil _ _ _ _ _, by repeat (first | (with_reducible first | exact HB.out | apply below_alloc | apply pw_below_drewN | apply below_drew1) | exact HB.out)⟩
                  · rw [if_neg c11] at H
                    exact absurd H (by simp)
              · rw [if_neg c9] at H
                exact absurd H (by simp)
            · rw [if_neg c8] at H
              have c8b0 : decide (0 < x6_1) = false := decide_eq_false c8
              clear c8
              (first | rw [c8b0] | (simp only [i64_w, i32_w]; rw [c8b0]) | skip)
              have H' := Aside0.mk H
              clear H
              go_wp2
              go_meet
              case rel => exact ⟨_, (x4_1), H', ⟨by have := HK1.out; first | omega | exact Nat.le_refl _⟩, ⟨by (with_reducible repeat (first | apply Kd.R_alloc | apply Kd.R_drewN | apply Kd.R_drew)); exact HO_4.out⟩, ⟨by (with_reducible repeat (first | apply Kd.R_alloc | apply Kd.R_drewN | apply Kd.R_drew)); exact HO_5.out⟩, ⟨by repeat (first | (with_reducible first | exact HB.out | apply below_alloc | apply pw_below_drewN | apply below_drew1) | exact HB.out)⟩⟩
          case rest =>
            clear HC6
            try clear c1
            try clear p1
            try clear q1
            try clear hx1
            try clear qi1
            try clear hf1
            try clear c2
            try clear c2b0
            try clear c2b1
            try clear p2
            try clear c3
            try clear c5
            try clear c5b0
            try clear c8
            try clear c8b0
            try clear c9
            try clear c9b0
            try clear c10
            try clear c10b0
            try clear c10b1
            try clear c11
            try clear c11b0
            try clear c11b1
            try clear c12
            try clear p12
            try clear q12
            try clear hx12
            try clear qi12
            try clear c13
            try clear c13b0
            try clear c13b1
            try clear c14
            try clear c14b0
            try clear c14b1
            try clear p15
            try clear q15
            try clear hx15
            try clear hf15
            try clear hx15_0
            try clear hx192_0
            try clear hx193_0
            try clear hx194_0
            try clear p12
            try clear p15
            try clear p192
            try clear p193
            try clear p194
            try clear p2
            try clear q12
            try clear q15
            try clear q192
            try clear q193
            try clear q194
            obtain ⟨kq, x4_5, HA, HJ5, HO_4, HO_5, HB⟩ := hcut
            have hl4_5 := (Kd.R_reads' HO_4.out).1
            rw [hl4_5] at HO_4
            (try simp only [hl4_5])
            (try simp only [hl4_5] at HO_5)
            cases kq with
            | zero => exact absurd HA.out (by simp [frisketref27_Spread.j1])
            | succ kj5 =>
              have H := HA.out
              clear HA
              simp only [frisketref27_Spread.j1] at H
              by_cases c18 : 0 ≤ x6_1
              · rw [if_pos c18] at H
                have c18b0 : decide (0 ≤ x6_1) = true := decide_eq_true c18
                clear c18
                by_cases c19 : x6_1 < (x4_5.length : Int)
                · rw [if_pos c19] at H
                  have c19b0 : decide (x6_1 < (x4_5.length : Int)) = true := decide_eq_true c19
                  clear c19
                  replace H := Option.bind_eq_some_iff.mp H
                  obtain ⟨t197, A200, H⟩ := H
                  replace H : (if 0 < (t197.length : Int) then ((frisketref07_Whole.f kj5 (rdOf ByteArray.empty t197 0)).bind fun bt201 => (if 0 ≤ (wrap64 ((t197.length : Int) - 1)) then (if (wrap64 ((t197.length : Int) - 1)) < (t197.length : Int) then ((frisketref07_Whole.f kj5 (rdOf ByteArray.empty t197 (wrap64 ((t197.length : Int) - 1)))).bind fun bt204 => (if bt201.2 = true then (if bt204.2 = true then (if (t197.length : Int) > 2 then (frisketref27_Spread.j2 kj5 a0 x4_5 x5_1 x6_1 bt201.1 bt204.1 true) else (if bt201.1 < 0 then (frisketref27_Spread.j2 kj5 a0 x4_5 x5_1 x6_1 bt201.1 bt204.1 true) else (if bt204.1 > 1000000 then (frisketref27_Spread.j2 kj5 a0 x4_5 x5_1 x6_1 bt201.1 bt204.1 true) else (frisketref27_Spread.j2 kj5 a0 x4_5 x5_1 x6_1 bt201.1 bt204.1 (decide (bt201.1 > bt204.1)))))) else (frisketref27_Spread.j2 kj5 a0 x4_5 x5_1 x6_1 bt201.1 bt204.1 true)) else (frisketref27_Spread.j2 kj5 a0 x4_5 x5_1 x6_1 bt201.1 bt204.1 true))) else (none)) else (none))) else (none)) = some (r1, r2) := H
                  have A20 := Aside0.mk A200
                  clear A200
                  by_cases c21 : 0 < (t197.length : Int)
                  · rw [if_pos c21] at H
                    have c21b0 : decide (0 < (t197.length : Int)) = true := decide_eq_true c21
                    have c21b1 : decide (0 < t197.length) = true := decide_eq_true (by omega)
                    clear c21
                    replace H := Option.bind_eq_some_iff.mp H
                    obtain ⟨⟨t201, t202⟩, A220, H⟩ := H
                    replace H : (if 0 ≤ (wrap64 ((t197.length : Int) - 1)) then (if (wrap64 ((t197.length : Int) - 1)) < (t197.length : Int) then ((frisketref07_Whole.f kj5 (rdOf ByteArray.empty t197 (wrap64 ((t197.length : Int) - 1)))).bind fun bt204 => (if t202 = true then (if bt204.2 = true then (if (t197.length : Int) > 2 then (frisketref27_Spread.j2 kj5 a0 x4_5 x5_1 x6_1 t201 bt204.1 true) else (if t201 < 0 then (frisketref27_Spread.j2 kj5 a0 x4_5 x5_1 x6_1 t201 bt204.1 true) else (if bt204.1 > 1000000 then (frisketref27_Spread.j2 kj5 a0 x4_5 x5_1 x6_1 t201 bt204.1 true) else (frisketref27_Spread.j2 kj5 a0 x4_5 x5_1 x6_1 t201 bt204.1 (decide (t201 > bt204.1)))))) else (frisketref27_Spread.j2 kj5 a0 x4_5 x5_1 x6_1 t201 bt204.1 true)) else (frisketref27_Spread.j2 kj5 a0 x4_5 x5_1 x6_1 t201 bt204.1 true))) else (none)) else (none)) = some (r1, r2) := H
                    have A22 := Aside0.mk A220
                    clear A220
                    obtain ⟨ji23, hji23⟩ : ∃ j_ : Int, (wrap64 ((t197.length : Int) - 1)) = j_ := ⟨_, rfl⟩
                    replace H : (if 0 ≤ (ji23) then (if (ji23) < (t197.length : Int) then ((frisketref07_Whole.f kj5 (rdOf ByteArray.empty t197 (ji23))).bind fun bt204 => (if t202 = true then (if bt204.2 = true then (if (t197.length : Int) > 2 then (frisketref27_Spread.j2 kj5 a0 x4_5 x5_1 x6_1 t201 bt204.1 true) else (if t201 < 0 then (frisketref27_Spread.j2 kj5 a0 x4_5 x5_1 x6_1 t201 bt204.1 true) else (if bt204.1 > 1000000 then (frisketref27_Spread.j2 kj5 a0 x4_5 x5_1 x6_1 t201 bt204.1 true) else (frisketref27_Spread.j2 kj5 a0 x4_5 x5_1 x6_1 t201 bt204.1 (decide (t201 > bt204.1)))))) else (frisketref27_Spread.j2 kj5 a0 x4_5 x5_1 x6_1 t201 bt204.1 true)) else (frisketref27_Spread.j2 kj5 a0 x4_5 x5_1 x6_1 t201 bt204.1 true))) else (none)) else (none)) = some (r1, r2) := by first | (rw [hji23] at H; exact H) | (simp only [hji23] at H ⊢; exact H)
                    (try rw [hji23] at A20)
                    (try rw [hji23] at A22)
                    have hji23w : (IntKind.i64.wrap ((t197.length : Int) - 1)) = ji23 := (i64_w _).trans hji23
                    by_cases c24 : 0 ≤ (ji23)
                    · rw [if_pos c24] at H
                      have c24b0 : decide (0 ≤ (ji23)) = true := decide_eq_true c24
                      clear c24
                      by_cases c25 : (ji23) < (t197.length : Int)
                      · rw [if_pos c25] at H
                        have c25b0 : decide ((ji23) < (t197.length : Int)) = true := decide_eq_true c25
                        clear c25
                        replace H := Option.bind_eq_some_iff.mp H
                        obtain ⟨⟨t204, t205⟩, A260, H⟩ := H
                        replace H : (if t202 = true then (if t205 = true then (if (t197.length : Int) > 2 then (frisketref27_Spread.j2 kj5 a0 x4_5 x5_1 x6_1 t201 t204 true) else (if t201 < 0 then (frisketref27_Spread.j2 kj5 a0 x4_5 x5_1 x6_1 t201 t204 true) else (if t204 > 1000000 then (frisketref27_Spread.j2 kj5 a0 x4_5 x5_1 x6_1 t201 t204 true) else (frisketref27_Spread.j2 kj5 a0 x4_5 x5_1 x6_1 t201 t204 (decide (t201 > t204)))))) else (frisketref27_Spread.j2 kj5 a0 x4_5 x5_1 x6_1 t201 t204 true)) else (frisketref27_Spread.j2 kj5 a0 x4_5 x5_1 x6_1 t201 t204 true)) = some (r1, r2) := H
                        have A26 := Aside0.mk A260
                        clear A260
                        have HC27 := Aside0.mk H
                        clear H
                        have p196 : 0 ≤ (x6_1 : Int) := of_decide_eq_true (by first | (with_reducible assumption) | assumption)
                        have q196 : x6_1 < (x4_5.length : Int) := of_decide_eq_true (by first | (with_reducible assumption) | assumption)
                        obtain ⟨ad196, e196, hx196_0⟩ := Kd.at_string (Kd.R_reads' HO_4.out).2.2 x6_1 p196 q196
                        cases e196
                        replace p196 := eq_true p196
                        replace q196 := eq_true q196
                        go_upto_region 15 with (first | ((with_reducible refine gate_callee (f := 30) rfl ?_); refine goesL_ (some 50) rfl rfl Tryd.func30 (by kernel_rfl) rfl #[.string (rdOf ByteArray.empty x4_5 x6_1), .int .u8 45] rfl (by (try simp only [List.map_toArray, List.map_cons, List.map_nil]); first | done | rfl | (simp only [List.length_drop, List.length_take]; rfl)) ?_; (with_reducible refine (frisketref07_Cut.calls kj5 (rdOf ByteArray.empty x4_5 x6_1) 45 t197 _ A20.out).mono ?_); rintro e w28 ⟨v198, rfl, ho0, hb⟩; refine ⟨_, rfl, ?_⟩; have n0_ := Aside0.mk (Kd.R_elder' (by (with_reducible repeat (first | apply Kd.R_alloc | apply Kd.R_drewN | apply Kd.R_drew)); exact HO_4.out) (Kd.R_base ho0) hb); have n1_ := Aside0.mk (Kd.R_below (by (with_reducible repeat (first | apply Kd.R_alloc | apply Kd.R_drewN | apply Kd.R_drew)); exact HO_5.out) hb); have n2_ := Aside0.mk (Kd.R_lower (Kd.R_new' ho0 (Kd.R_lt (by (with_reducible repeat (first | apply Kd.R_alloc | apply Kd.R_drewN | apply Kd.R_drew)); exact HO_4.out))) (below_size (by repeat (first | (with_reducible first | exact HB.out | apply below_alloc | apply pw_below_drewN | apply below_drew1) | exact HB.out)))); have n3_ := Aside0.mk (below_step (by repeat (first | (with_reducible first | exact HB.out | apply below_alloc | apply pw_below_drewN | apply below_drew1) | exact HB.out)) hb); clear HO_4; clear HO_5; clear HB; have HO_4 := n0_; have HO_5 := n1_; have HO199 := n2_; have HB := n3_; clear n0_ n1_ n2_ n3_; (try clear hb); (try clear hb2); (try clear hk); (try clear hi); (try clear ho0); obtain ⟨Ao29, co29, eo29⟩ := Kd.R_slice HO199.out; subst eo29; have p200 : 0 ≤ (0 : Int) := (by omega); have q200 : 0 < (t197.length : Int) := of_decide_eq_true (by first | (with_reducible assumption) | assumption); obtain ⟨ad200, e200, hx200_0⟩ := Kd.at_string (Kd.R_reads' HO199.out).2.2 0 p200 q200; cases e200; have qi200 : (0 < t197.length) = True := eq_true (by omega); (try rw [show ((0 : Int)).toNat = 0 from rfl] at hx200_0); (try rw [Addr.add_zero'] at hx200_0); replace p200 := eq_true p200; replace q200 := eq_true q200) | ((with_reducible refine gate_callee (f := 31) rfl ?_); refine goesL_ (some 55) rfl rfl Tryd.func31 (by kernel_rfl) rfl #[.string (rdOf ByteArray.empty t197 0)] rfl (by (try simp only [List.map_toArray, List.map_cons, List.map_nil]); first | done | rfl | (simp only [List.length_drop, List.length_take]; rfl)) ?_; (with_reducible refine (frisketref07_Whole.calls kj5 (rdOf ByteArray.empty t197 0) t201 t202 _ A22.out).mono ?_); rintro e w30 ⟨rfl, hb⟩; refine ⟨_, rfl, ?_⟩; have n0_ := Aside0.mk (Kd.R_below (by (with_reducible repeat (first | apply Kd.R_alloc | apply Kd.R_drewN | apply Kd.R_drew)); exact HO_4.out) hb); have n1_ := Aside0.mk (Kd.R_below (by (with_reducible repeat (first | apply Kd.R_alloc | apply Kd.R_drewN | apply Kd.R_drew)); exact HO_5.out) hb); have n2_ := Aside0.mk (Kd.R_below (by (with_reducible repeat (first | apply Kd.R_alloc | apply Kd.R_drewN | apply Kd.R_drew)); exact HO199.out) hb); have n3_ := Aside0.mk (below_step (by repeat (first | (with_reducible first | exact HB.out | apply below_alloc | apply pw_below_drewN | apply below_drew1) | exact HB.out)) hb); clear HO_4; clear HO_5; clear HO199; clear HB; have HO_4 := n0_; have HO_5 := n1_; have HO199 := n2_; have HB := n3_; clear n0_ n1_ n2_ n3_; (try clear hb); (try clear hb2); (try clear hk); (try clear hi); have p203 : 0 ≤ ((ji23) : Int) := of_decide_eq_true (by first | (with_reducible assumption) | assumption); have q203 : (ji23) < (t197.length : Int) := of_decide_eq_true (by first | (with_reducible assumption) | assumption); obtain ⟨ad203, e203, hx203_0⟩ := Kd.at_string (Kd.R_reads' HO199.out).2.2 (ji23) p203 q203; obtain rfl : ad200 = ad203 := (by injection e203); replace p203 := eq_true p203; replace q203 := eq_true q203) | ((with_reducible refine gate_callee (f := 31) rfl ?_); refine goesL_ (some 65) rfl rfl Tryd.func31 (by kernel_rfl) rfl #[.string (rdOf ByteArray.empty t197 (ji23))] rfl (by (try simp only [List.map_toArray, List.map_cons, List.map_nil]); first | done | (simp only [hji23]; rfl) | rfl | (simp only [List.length_drop, List.length_take]; rfl)) ?_; (with_reducible refine (frisketref07_Whole.calls kj5 (rdOf ByteArray.empty t197 (ji23)) t204 t205 _ A26.out).mono ?_); rintro e w31 ⟨rfl, hb⟩; refine ⟨_, rfl, ?_⟩; have n0_ := Aside0.mk (Kd.R_below (by (with_reducible repeat (first | apply Kd.R_alloc | apply Kd.R_drewN | apply Kd.R_drew)); exact HO_4.out) hb); have n1_ := Aside0.mk (Kd.R_below (by (with_reducible repeat (first | apply Kd.R_alloc | apply Kd.R_drewN | apply Kd.R_drew)); exact HO_5.out) hb); have n2_ := Aside0.mk (Kd.R_below (by (with_reducible repeat (first | apply Kd.R_alloc | apply Kd.R_drewN | apply Kd.R_drew)); exact HO199.out) hb); have n3_ := Aside0.mk (below_step (by repeat (first | (with_reducible first | exact HB.out | apply below_alloc | apply pw_below_drewN | apply below_drew1) | exact HB.out)) hb); clear HO_4; clear HO_5; clear HO199; clear HB; have HO_4 := n0_; have HO_5 := n1_; have HO199 := n2_; have HB := n3_; clear n0_ n1_ n2_ n3_; (try clear hb); (try clear hb2); (try clear hk); (try clear hi)))
                        (try simp only [Act.put, List.setIfInBounds_toArray, List.set_cons_zero, List.set_cons_succ])
                        go_cut [91] (fun v91 wc => ∃ (kq : Nat) (x91_26 : Bool), v91 = .bool x91_26 ∧ Aside0 (frisketref27_Spread.j2 kq a0 x4_5 x5_1 x6_1 t201 t204 x91_26 = some (r1, r2)) ∧ Aside0 (kq ≤ kj5) ∧ Aside0 (Kd.R Kd.string 9 wc w.heap.size (fun _ => True) (.slice (some ad196) x4_5.length co7) x4_5) ∧ Aside0 (Kd.R (Kd.int .i64) 3 wc w.heap.size (fun _ => True) u5 x5_1) ∧ Aside0 (Below w.heap.size w wc))
                        case first =>
                          have H := HC27.out
                          clear HC27
                          by_cases c32 : t202 = true
                          · subst c32
                            have H1 : (if t205 = true then (if (t197.length : Int) > 2 then (frisketref27_Spread.j2 kj5 a0 x4_5 x5_1 x6_1 t201 t204 true) else (if t201 < 0 then (frisketref27_Spread.j2 kj5 a0 x4_5 x5_1 x6_1 t201 t204 true) else (if t204 > 1000000 then (frisketref27_Spread.j2 kj5 a0 x4_5 x5_1 x6_1 t201 t204 true) else (frisketref27_Spread.j2 kj5 a0 x4_5 x5_1 x6_1 t201 t204 (decide (t201 > t204)))))) else (frisketref27_Spread.j2 kj5 a0 x4_5 x5_1 x6_1 t201 t204 true)) = some (r1, r2) := by rw [if_pos rfl] at H; exact H
                            clear H
                            have H := H1
                            clear H1
                            by_cases c33 : t205 = true
                            · subst c33
                              have H1 : (if (t197.length : Int) > 2 then (frisketref27_Spread.j2 kj5 a0 x4_5 x5_1 x6_1 t201 t204 true) else (if t201 < 0 then (frisketref27_Spread.j2 kj5 a0 x4_5 x5_1 x6_1 t201 t204 true) else (if t204 > 1000000 then (frisketref27_Spread.j2 kj5 a0 x4_5 x5_1 x6_1 t201 t204 true) else (frisketref27_Spread.j2 kj5 a0 x4_5 x5_1 x6_1 t201 t204 (decide (t201 > t204)))))) = some (r1, r2) := by rw [if_pos rfl] at H; exact H
                              clear H
                              have H := H1
                              clear H1
                              by_cases c34 : (t197.length : Int) > 2
                              · rw [if_pos c34] at H
                                have c34b0 : decide (2 < (t197.length : Int)) = true := decide_eq_true c34
                                have c34b1 : decide (2 < t197.length) = true := decide_eq_true (by omega)
                                clear c34
                                (first | rw [c34b0] | (simp only [i64_w, i32_w]; rw [c34b0]) | skip)
                                have H' := Aside0.mk H
                                clear H
                                go_wp2
                                go_meet
                                case rel => exact ⟨_, (true), (by first | rfl | (simp; done) | (simp [*]; done)), H', ⟨by have := HK1.out; have := HJ5.out; first | omega | exact Nat.le_refl _⟩, ⟨by (try simp only [hl4_5]); (with_reducible repeat (first | apply Kd.R_alloc | apply Kd.R_drewN | apply Kd.R_drew)); exact Kd.R_mono HO_4.out (fun _ hk => trivial)⟩, ⟨by (try simp only [hl4_5]); (with_reducible repeat (first | apply Kd.R_alloc | apply Kd.R_drewN | apply Kd.R_drew)); exact HO_5.out⟩, ⟨by repeat (first | (with_reducible first | exact HB.out | apply below_alloc | apply pw_below_drewN | apply below_drew1) | exact HB.out)⟩⟩
                              · rw [if_neg c34] at H
                                have c34b0 : decide (2 < (t197.length : Int)) = false := decide_eq_false c34
                                have c34b1 : decide (2 < t197.length) = false := decide_eq_false (by omega)
                                clear c34
                                (first | rw [c34b0] | (simp only [i64_w, i32_w]; rw [c34b0]) | skip)
                                by_cases c35 : t201 < 0
                                · rw [if_pos c35] at H
                                  have c35b0 : decide (t201 < 0) = true := decide_eq_true c35
                                  clear c35
                                  have H' := Aside0.mk H
                                  clear H
                                  go_wp2
                                  go_meet
                                  case rel => exact ⟨_, (true), (by first | rfl | (simp; done) | (simp [*]; done)), H', ⟨by have := HK1.out; have := HJ5.out; first | omega | exact Nat.le_refl _⟩, ⟨by (try simp only [hl4_5]); (with_reducible repeat (first | apply Kd.R_alloc | apply Kd.R_drewN | apply Kd.R_drew)); exact Kd.R_mono HO_4.out (fun _ hk => trivial)⟩, ⟨by (try simp only [hl4_5]); (with_reducible repeat (first | apply Kd.R_alloc | apply Kd.R_drewN | apply Kd.R_drew)); exact HO_5.out⟩, ⟨by repeat (first | (with_reducible first | exact HB.out | apply below_alloc | apply pw_below_drewN | apply below_drew1) | exact HB.out)⟩⟩
                                · rw [if_neg c35] at H
                                  have c35b0 : decide (t201 < 0) = false := decide_eq_false c35
                                  clear c35
                                  by_cases c36 : t204 > 1000000
                                  · rw [if_pos c36] at H
                                    have c36b0 : decide (1000000 < t204) = true := decide_eq_true c36
                                    clear c36
                                    have H' := Aside0.mk H
                                    clear H
                                    go_wp2
                                    go_meet
                                    case rel => exact ⟨_, (true), (by first | rfl | (simp; done) | (simp [*]; done)), H', ⟨by have := HK1.out; have := HJ5.out; first | omega | exact Nat.le_refl _⟩, ⟨by (try simp only [hl4_5]); (with_reducible repeat (first | apply Kd.R_alloc | apply Kd.R_drewN | apply Kd.R_drew)); exact Kd.R_mono HO_4.out (fun _ hk => trivial)⟩, ⟨by (try simp only [hl4_5]); (with_reducible repeat (first | apply Kd.R_alloc | apply Kd.R_drewN | apply Kd.R_drew)); exact HO_5.out⟩, ⟨by repeat (first | (with_reducible first | exact HB.out | apply below_alloc | apply pw_below_drewN | apply below_drew1) | exact HB.out)⟩⟩
                                  · rw [if_neg c36] at H
                                    have c36b0 : decide (1000000 < t204) = false := decide_eq_false c36
                                    clear c36
                                    have H' := Aside0.mk H
                                    clear H
                                    go_wp2
                                    go_meet
                                    case rel => exact ⟨_, (decide (t201 > t204)), (by first | rfl | (simp; done) | (simp [*]; done)), H', ⟨by have := HK1.out; have := HJ5.out; first | omega | exact Nat.le_refl _⟩, ⟨by (try simp only [hl4_5]); (with_reducible repeat (first | apply Kd.R_alloc | apply Kd.R_drewN | apply Kd.R_drew)); exact Kd.R_mono HO_4.out (fun _ hk => trivial)⟩, ⟨by (try simp only [hl4_5]); (with_reducible repeat (first | apply Kd.R_alloc | apply Kd.R_drewN | apply Kd.R_drew)); exact HO_5.out⟩, ⟨by repeat (first | (with_reducible first | exact HB.out | apply below_alloc | apply pw_below_drewN | apply below_drew1) | exact HB.out)⟩⟩
                            · replace c33 := Bool.eq_false_iff.mpr c33
                              subst c33
                              have H1 : (frisketref27_Spread.j2 kj5 a0 x4_5 x5_1 x6_1 t201 t204 true) = some (r1, r2) := by rw [if_neg (show ¬ (false = true) by decide)] at H; exact H
                              clear H
                              have H := H1
                              clear H1
                              have H' := Aside0.mk H
                              clear H
                              go_wp2
                              go_meet
                              case rel => exact ⟨_, (true), (by first | rfl | (simp; done) | (simp [*]; done)), H', ⟨by have := HK1.out; have := HJ5.out; first | omega | exact Nat.le_refl _⟩, ⟨by (try simp only [hl4_5]); (with_reducible repeat (first | apply Kd.R_alloc | apply Kd.R_drewN | apply Kd.R_drew)); exact Kd.R_mono HO_4.out (fun _ hk => trivial)⟩, ⟨by (try simp only [hl4_5]); (with_reducible repeat (first | apply Kd.R_alloc | apply Kd.R_drewN | apply Kd.R_drew)); exact HO_5.out⟩, ⟨by repeat (first | (with_reducible first | exact HB.out | apply below_alloc | apply pw_below_drewN | apply below_drew1) | exact HB.out)⟩⟩
                          · replace c32 := Bool.eq_false_iff.mpr c32
                            subst c32
                            have H1 : (frisketref27_Spread.j2 kj5 a0 x4_5 x5_1 x6_1 t201 t204 true) = some (r1, r2) := by rw [if_neg (show ¬ (false = true) by decide)] at H; exact H
                            clear H
                            have H := H1
                            clear H1
                            have H' := Aside0.mk H
                            clear H
                            go_wp2
                            go_meet
                            case rel => exact ⟨_, (true), (by first | rfl | (simp; done) | (simp [*]; done)), H', ⟨by have := HK1.out; have := HJ5.out; first | omega | exact Nat.le_refl _⟩, ⟨by (try simp only [hl4_5]); (with_reducible repeat (first | apply Kd.R_alloc | apply Kd.R_drewN | apply Kd.R_drew)); exact Kd.R_mono HO_4.out (fun _ hk => trivial)⟩, ⟨by (try simp only [hl4_5]); (with_reducible repeat (first | apply Kd.R_alloc | apply Kd.R_drewN | apply Kd.R_drew)); exact HO_5.out⟩, ⟨by repeat (first | (with_reducible first | exact HB.out | apply below_alloc | apply pw_below_drewN | apply below_drew1) | exact HB.out)⟩⟩
                        case rest =>
                          clear HC27
                          try clear c1
                          try clear p1
                          try clear q1
                          try clear hx1
                          try clear qi1
                          try clear hf1
                          try clear c2
                          try clear c2b0
                          try clear c2b1
                          try clear p2
                          try clear q2
                          try clear hx2
                          try clear qi2
                          try clear c3
                          try clear c5
                          try clear c5b0
                          try clear p6
                          try clear c8
                          try clear c8b0
                          try clear c9
                          try clear c9b0
                          try clear c10
                          try clear c10b0
                          try clear c10b1
                          try clear c11
                          try clear c11b0
                          try clear c11b1
                          try clear c12
                          try clear p12
                          try clear q12
                          try clear hx12
                          try clear qi12
                          try clear c13
                          try clear c13b0
                          try clear c13b1
                          try clear c14
                          try clear c14b0
                          try clear c14b1
                          try clear p15
                          try clear q15
                          try clear hx15
                          try clear hf15
                          try clear c18
                          try clear c18b0
                          try clear c19
                          try clear c19b0
                          try clear p19
                          try clear q19
                          try clear hx19
                          try clear p20
                          try clear q20
                          try clear hx20
                          try clear qi20
                          try clear c21
                          try clear c21b0
                          try clear c21b1
                          try clear c24
                          try clear c24b0
                          try clear c25
                          try clear c25b0
                          try clear c30
                          try clear c31
                          try clear c32
                          try clear c33
                          try clear c34
                          try clear c34b0
                          try clear c34b1
                          try clear c35
                          try clear c35b0
                          try clear c36
                          try clear c36b0
                          try clear hx15_0
                          try clear hx192_0
                          try clear hx193_0
                          try clear hx194_0
                          try clear hx196_0
                          try clear hx200_0
                          try clear hx203_0
                          try clear p1
                          try clear p12
                          try clear p15
                          try clear p192
                          try clear p193
                          try clear p194
                          try clear p196
                          try clear p2
                          try clear p200
                          try clear p203
                          try clear q1
                          try clear q12
                          try clear q15
                          try clear q192
                          try clear q193
                          try clear q194
                          try clear q196
                          try clear q200
                          try clear q203
                          obtain ⟨kq, x91_26, rfl, HA, HJ26, HO_4, HO_5, HB⟩ := hcut
                          cases kq with
                          | zero => exact absurd HA.out (by simp [frisketref27_Spread.j2])
                          | succ kj26 =>
                            have H := HA.out
                            clear HA
                            simp only [frisketref27_Spread.j2] at H
                            by_cases c37 : x91_26 = true
                            · subst c37
                              have H1 : (some (([] : List Int), 4)) = some (r1, r2) := by rw [if_pos rfl] at H; exact H
                              clear H
                              have H := H1
                              clear H1
                              simp only [Option.some.injEq, Prod.mk.injEq] at H
                              obtain ⟨rfl, rfl⟩ := H
                              go_wp2
                              go_ret2
                              exact ⟨_, by first | rfl | (simp [errW_none, errW_some] <;> rfl) | (simp only [← hji23]; first | rfl | (simp [errW_none, errW_some] <;> rfl)) | (simp [*, errW_none, errW_some] <;> rfl), by first | exact Kd.R_nil _ _ _ _ _ | exact Kd.N_nil _ _ _ _ _ | exact Kd.V_nil _ _ _ _ _ | exact Kd.Q_nil _ _ _ _ _ | exact Kd.S_nil _ _ _ _ _, by repeat (first | (with_reducible first | exact HB.out | apply below_alloc | apply pw_below_drewN | apply below_drew1) | exact HB.out)⟩
                            · replace c37 := Bool.eq_false_iff.mpr c37
                              subst c37
                              have H1 : (if (x5_1.length : Int) > 0 then (if 0 ≤ (wrap64 ((x5_1.length : Int) - 1)) then (if (wrap64 ((x5_1.length : Int) - 1)) < (x5_1.length : Int) then (frisketref27_Spread.j3 kj26 a0 x4_5 x5_1 x6_1 t201 t204 (decide (t201 ≤ (rd x5_1 (wrap64 ((x5_1.length : Int) - 1)))))) else (none)) else (none)) else (frisketref27_Spread.j3 kj26 a0 x4_5 x5_1 x6_1 t201 t204 false)) = some (r1, r2) := by rw [if_neg (show ¬ (false = true) by decide)] at H; exact H
                              clear H
                              have H := H1
                              clear H1
                              have HC38 := Aside0.mk H
                              clear H
                              go_upto_region 17 with (fail)
                              go_cut [104] (fun v104 wc => ∃ (kq : Nat) (x104_37 : Bool), v104 = .bool x104_37 ∧ Aside0 (frisketref27_Spread.j3 kq a0 x4_5 x5_1 x6_1 t201 t204 x104_37 = some (r1, r2)) ∧ Aside0 (kq ≤ kj26) ∧ Aside0 (Kd.R Kd.string 9 wc w.heap.size (fun _ => True) (.slice (some ad196) x4_5.length co7) x4_5) ∧ Aside0 (Kd.R (Kd.int .i64) 3 wc w.heap.size (fun _ => True) u5 x5_1) ∧ Aside0 (Below w.heap.size w wc))
                              case first =>
                                have H := HC38.out
                                clear HC38
                                by_cases c39 : (x5_1.length : Int) > 0
                                · rw [if_pos c39] at H
                                  have c39b0 : decide (0 < (x5_1.length : Int)) = true := decide_eq_true c39
                                  have c39b1 : decide (0 < x5_1.length) = true := decide_eq_true (by omega)
                                  clear c39
                                  (first | rw [c39b0] | (simp only [i64_w, i32_w]; rw [c39b0]) | skip)
                                  obtain ⟨ji40, hji40⟩ : ∃ j_ : Int, (wrap64 ((x5_1.length : Int) - 1)) = j_ := ⟨_, rfl⟩
                                  replace H : (if 0 ≤ (ji40) then (if (ji40) < (x5_1.length : Int) then (frisketref27_Spread.j3 kj26 a0 x4_5 x5_1 x6_1 t201 t204 (decide (t201 ≤ (rd x5_1 (ji40))))) else (none)) else (none)) = some (r1, r2) := by first | (rw [hji40] at H; exact H) | (simp only [hji40] at H ⊢; exact H)
                                  have hji40w : (IntKind.i64.wrap ((x5_1.length : Int) - 1)) = ji40 := (i64_w _).trans hji40
                                  by_cases c41 : 0 ≤ (ji40)
                                  · rw [if_pos c41] at H
                                    have c41b0 : decide (0 ≤ (ji40)) = true := decide_eq_true c41
                                    clear c41
                                    by_cases c42 : (ji40) < (x5_1.length : Int)
                                    · rw [if_pos c42] at H
                                      have c42b0 : decide ((ji40) < (x5_1.length : Int)) = true := decide_eq_true c42
                                      clear c42
                                      have H' := Aside0.mk H
                                      clear H
                                      obtain ⟨Ao43, co43, eo43⟩ := Kd.R_slice HO_5.out
                                      subst eo43
                                      have p206 : 0 ≤ ((ji40) : Int) := of_decide_eq_true (by first | (with_reducible assumption) | assumption)
                                      have q206 : (ji40) < (x5_1.length : Int) := of_decide_eq_true (by first | (with_reducible assumption) | assumption)
                                      obtain ⟨ad206, e206, hx206_0⟩ := Kd.at_int (Kd.R_reads' HO_5.out).2.2 (ji40) p206 q206
                                      cases e206
                                      replace p206 := eq_true p206
                                      replace q206 := eq_true q206
                                      go_wp2
                                      go_meet
                                      case rel => exact ⟨_, (decide (t201 ≤ (rd x5_1 (ji40)))), (by first | rfl | (simp; done) | (simp only [← hji40] <;> (first | rfl | simp)) | (simp [*]; done)), H', ⟨by have := HK1.out; have := HJ5.out; have := HJ26.out; first | omega | exact Nat.le_refl _⟩, ⟨by (try simp only [hl4_5]); (with_reducible repeat (first | apply Kd.R_alloc | apply Kd.R_drewN | apply Kd.R_drew)); exact HO_4.out⟩, ⟨by (try simp only [hl4_5]); (with_reducible repeat (first | apply Kd.R_alloc | apply Kd.R_drewN | apply Kd.R_drew)); exact HO_5.out⟩, ⟨by repeat (first | (with_reducible first | exact HB.out | apply below_alloc | apply pw_below_drewN | apply below_drew1) | exact HB.out)⟩⟩
                                    · rw [if_neg c42] at H
                                      exact absurd H (by simp)
                                  · rw [if_neg c41] at H
                                    exact absurd H (by simp)
                                · rw [if_neg c39] at H
                                  have c39b0 : decide (0 < (x5_1.length : Int)) = false := decide_eq_false c39
                                  have c39b1 : decide (0 < x5_1.length) = false := decide_eq_false (by omega)
                                  clear c39
                                  (first | rw [c39b0] | (simp only [i64_w, i32_w]; rw [c39b0]) | skip)
                                  have H' := Aside0.mk H
                                  clear H
                                  obtain ⟨Ao44, co44, eo44⟩ := Kd.R_slice HO_5.out
                                  subst eo44
                                  go_wp2
                                  go_meet
                                  case rel => exact ⟨_, (false), (by first | rfl | (simp; done) | (simp [*]; done)), H', ⟨by have := HK1.out; have := HJ5.out; have := HJ26.out; first | omega | exact Nat.le_refl _⟩, ⟨by (try simp only [hl4_5]); (with_reducible repeat (first | apply Kd.R_alloc | apply Kd.R_drewN | apply Kd.R_drew)); exact HO_4.out⟩, ⟨by (try simp only [hl4_5]); (with_reducible repeat (first | apply Kd.R_alloc | apply Kd.R_drewN | apply Kd.R_drew)); exact HO_5.out⟩, ⟨by repeat (first | (with_reducible first | exact HB.out | apply below_alloc | apply pw_below_drewN | apply below_drew1) | exact HB.out)⟩⟩
                              case rest =>
                                clear HC38
                                try clear c1
                                try clear p1
                                try clear q1
                                try clear hx1
                                try clear qi1
                                try clear hf1
                                try clear c2
                                try clear c2b0
                                try clear c2b1
                                try clear p2
                                try clear q2
                                try clear hx2
                                try clear qi2
                                try clear c3
                                try clear c4
                                try clear c5
                                try clear c5b0
                                try clear p6
                                try clear c8
                                try clear c8b0
                                try clear c9
                                try clear c9b0
                                try clear c10
                                try clear c10b0
                                try clear c10b1
                                try clear c11
                                try clear c11b0
                                try clear c11b1
                                try clear c12
                                try clear p12
                                try clear q12
                                try clear hx12
                                try clear qi12
                                try clear c13
                                try clear c13b0
                                try clear c13b1
                                try clear c14
                                try clear c14b0
                                try clear c14b1
                                try clear p15
                                try clear q15
                                try clear hx15
                                try clear hf15
                                try clear c18
                                try clear c18b0
                                try clear c19
                                try clear c19b0
                                try clear p19
                                try clear q19
                                try clear hx19
                                try clear p20
                                try clear q20
                                try clear hx20
                                try clear qi20
                                try clear c21
                                try clear c21b0
                                try clear c21b1
                                try clear c24
                                try clear c24b0
                                try clear c25
                                try clear c25b0
                                try clear c30
                                try clear c31
                                try clear c32
                                try clear c33
                                try clear c34
                                try clear c34b0
                                try clear c34b1
                                try clear c35
                                try clear c35b0
                                try clear c36
                                try clear c36b0
                                try clear c37
                                try clear c39
                                try clear c39b0
                                try clear c39b1
                                try clear c41
                                try clear c41b0
                                try clear c42
                                try clear c42b0
                                try clear hx15_0
                                try clear hx192_0
                                try clear hx193_0
                                try clear hx194_0
                                try clear hx196_0
                                try clear hx200_0
                                try clear hx203_0
                                try clear hx206_0
                                try clear p1
                                try clear p12
                                try clear p15
                                try clear p19
                                try clear p192
                                try clear p193
                                try clear p194
                                try clear p196
                                try clear p2
                                try clear p20
                                try clear p200
                                try clear p203
                                try clear p206
                                try clear p6
                                try clear q1
                                try clear q12
                                try clear q15
                                try clear q19
                                try clear q192
                                try clear q193
                                try clear q194
                                try clear q196
                                try clear q2
                                try clear q20
                                try clear q200
                                try clear q203
                                try clear q206
                                obtain ⟨kq, x104_37, rfl, HA, HJ37, HO_4, HO_5, HB⟩ := hcut
                                cases kq with
                                | zero => exact absurd HA.out (by simp [frisketref27_Spread.j3])
                                | succ kj37 =>
                                  have H := HA.out
                                  clear HA
                                  simp only [frisketref27_Spread.j3] at H
                                  by_cases c45 : x104_37 = true
                                  · subst c45
                                    have H1 : (some (([] : List Int), 4)) = some (r1, r2) := by rw [if_pos rfl] at H; exact H
                                    clear H
                                    have H := H1
                                    clear H1
                                    simp only [Option.some.injEq, Prod.mk.injEq] at H
                                    obtain ⟨rfl, rfl⟩ := H
                                    go_wp2
                                    go_ret2
                                    exact ⟨_, by first | rfl | (simp [errW_none, errW_some] <;> rfl) | (simp only [← hji23]; first | rfl | (simp [errW_none, errW_some] <;> rfl)) | (simp [*, errW_none, errW_some] <;> rfl), by first | exact Kd.R_nil _ _ _ _ _ | exact Kd.N_nil _ _ _ _ _ | exact Kd.V_nil _ _ _ _ _ | exact Kd.Q_nil _ _ _ _ _ | exact Kd.S_nil _ _ _ _ _, by repeat (first | (with_reducible first | exact HB.out | apply below_alloc | apply pw_below_drewN | apply below_drew1) | exact HB.out)⟩
                                  · replace c45 := Bool.eq_false_iff.mpr c45
                                    subst c45
                                    have H1 : (frisketref27_Spread.l1 kj37 a0 x4_5 x5_1 x6_1 t204 t201) = some (r1, r2) := by rw [if_neg (show ¬ (false = true) by decide)] at H; exact H
                                    clear H
                                    have H := H1
                                    clear H1
                                    have H' := Aside0.mk H
                                    clear H
                                    go_wp2
                                    go_loopg [5, 12] kj37 (fun kq v5 v12 w' => ∃ (x5_5 : List Int) (x12_5 : Int), v12 = .int .i64 x12_5 ∧ Aside0 (frisketref27_Spread.l1 kq a0 x4_5 x5_5 x6_1 t204 x12_5 = some (r1, r2)) ∧ Aside0 (kq ≤ kj37) ∧ Aside0 (Kd.R Kd.string 9 w' w.heap.size (fun _ => True) (.slice (some ad196) x4_5.length co7) x4_5) ∧ Aside0 (Kd.R (Kd.int .i64) 3 w' w.heap.size (fun _ => True) v5 x5_5) ∧ Aside0 (Below w.heap.size w w'))
                                    case atStart => exact ⟨(x5_1), (t201), (by first | rfl | (simp; done) | (simp [*]; done)), H', ⟨Nat.le_refl _⟩, ⟨by (try simp only [hl4_5]); (with_reducible repeat (first | apply Kd.R_alloc | apply Kd.R_drewN | apply Kd.R_drew)); exact HO_4.out⟩, ⟨by (try simp only [hl4_5]); (with_reducible repeat (first | apply Kd.R_alloc | apply Kd.R_drewN | apply Kd.R_drew)); exact HO_5.out⟩, ⟨by repeat (first | (with_reducible first | exact HB.out | apply below_alloc | apply pw_below_drewN | apply below_drew1) | exact HB.out)⟩⟩
                                    case round =>
                                      clear H'
                                      try clear c1
                                      try clear p1
                                      try clear q1
                                      try clear hx1
                                      try clear qi1
                                      try clear hf1
                                      try clear c2
                                      try clear c2b0
                                      try clear c2b1
                                      try clear p2
                                      try clear q2
                                      try clear hx2
                                      try clear qi2
                                      try clear c3
                                      try clear c4
                                      try clear c5
                                      try clear c5b0
                                      try clear p6
                                      try clear c8
                                      try clear c8b0
                                      try clear c9
                                      try clear c9b0
                                      try clear c10
                                      try clear c10b0
                                      try clear c10b1
                                      try clear c11
                                      try clear c11b0
                                      try clear c11b1
                                      try clear c12
                                      try clear p12
                                      try clear q12
                                      try clear hx12
                                      try clear qi12
                                      try clear c13
                                      try clear c13b0
                                      try clear c13b1
                                      try clear c14
                                      try clear c14b0
                                      try clear c14b1
                                      try clear p15
                                      try clear q15
                                      try clear hx15
                                      try clear hf15
                                      try clear c18
                                      try clear c18b0
                                      try clear c19
                                      try clear c19b0
                                      try clear p19
                                      try clear q19
                                      try clear hx19
                                      try clear p20
                                      try clear q20
                                      try clear hx20
                                      try clear qi20
                                      try clear c21
                                      try clear c21b0
                                      try clear c21b1
                                      try clear c24
                                      try clear c24b0
                                      try clear c25
                                      try clear c25b0
                                      try clear c30
                                      try clear c31
                                      try clear c32
                                      try clear c33
                                      try clear c34
                                      try clear c34b0
                                      try clear c34b1
                                      try clear c35
                                      try clear c35b0
                                      try clear c36
                                      try clear c36b0
                                      try clear c37
                                      try clear c39
                                      try clear c39b0
                                      try clear c39b1
                                      try clear c41
                                      try clear c41b0
                                      try clear c42
                                      try clear c42b0
                                      try clear c45
                                      try clear hx15_0
                                      try clear hx192_0
                                      try clear hx193_0
                                      try clear hx194_0
                                      try clear hx196_0
                                      try clear hx200_0
                                      try clear hx203_0
                                      try clear hx206_0
                                      try clear p1
                                      try clear p12
                                      try clear p15
                                      try clear p19
                                      try clear p192
                                      try clear p193
                                      try clear p194
                                      try clear p196
                                      try clear p2
                                      try clear p20
                                      try clear p200
                                      try clear p203
                                      try clear p206
                                      try clear p6
                                      try clear q1
                                      try clear q12
                                      try clear q15
                                      try clear q19
                                      try clear q192
                                      try clear q193
                                      try clear q194
                                      try clear q196
                                      try clear q2
                                      try clear q20
                                      try clear q200
                                      try clear q203
                                      try clear q206
                                      obtain ⟨x5_5, x12_5, rfl, HA, HK5, HO_4, HO_5, HB⟩ := hrel
                                      cases gk with
                                      | zero => exact absurd HA.out (by simp [frisketref27_Spread.l1])
                                      | succ k5 =>
                                        have H := HA.out
                                        clear HA
                                        simp only [frisketref27_Spread.l1] at H
                                        by_cases c46 : x12_5 ≤ t204
                                        · rw [if_pos c46] at H
                                          have c46b0 : decide (x12_5 ≤ t204) = true := decide_eq_true c46
                                          clear c46
                                          by_cases c47 : x5_5.length < 17592186044416
                                          · rw [if_pos c47] at H
                                            have LMc47 := Aside0.mk c47
                                            clear c47
                                            obtain ⟨y207, hy207⟩ : ∃ y_ : List Int, y_ = (x5_5 ++ [x12_5]) := ⟨_, rfl⟩
                                            replace H : (frisketref27_Spread.l1 k5 a0 x4_5 y207 x6_1 t204 (wrap64 (x12_5 + 1))) = some (r1, r2) := by first | (rw [hy207]; with_reducible exact H) | (have H2_ := (Option.bind_some _ _).symm.trans H; rw [hy207]; with_reducible exact H2_) | (have H2_ := (Option.bind_some _ _).symm.trans H; with_reducible exact H2_) | with_reducible exact H | (rw [hy207]; exact H) | exact H
                                            have Ny207 := Aside0.mk hy207
                                            clear hy207
                                            have H' := Aside0.mk H
                                            clear H
                                            go_wp2_with (first | ((with_reducible refine gate_builtin (b := .append) (xs := #[.tmp 111, .tmp 113]) rfl ?_); (try (refine gate_guard (by rfl) ?_; dsimp only)); at_builtin; refine Kd.R_append (Kd.int .i64) (w0 := w) w.heap.size rfl (.tmp 111) (.tmp 113) 23 3 (.int .i64 0) 8 rfl Tryd.underlying23 info3 rfl (by decide) (by omega) u5 x5_5 x12_5 [.int .i64 x12_5] (fun _ => True) (fun _ => False) rfl rfl ?aP (fun _ hk => hk.elim) ?aF ?aO ?aB ?aS ?aL ?_; (case aP => exact rfl); (case aB => exact (by repeat (first | (with_reducible first | exact HB.out | apply below_alloc | apply pw_below_drewN | apply below_drew1) | exact HB.out))); (case aF => exact (fun _ _ => trivial)); (case aO => exact (by (with_reducible repeat (first | apply Kd.R_alloc | apply Kd.R_drewN | apply Kd.R_drew)); exact HO_5.out)); (case aS => exact (below_size (by repeat (first | (with_reducible first | exact HB.out | apply below_alloc | apply pw_below_drewN | apply below_drew1) | exact HB.out)))); (case aL => have := LMc47.out; omega); intro v208 w48 ho hb hg hat; rw [← Ny207.out] at ho; have n0_ := Aside0.mk (Kd.R_over' (by (with_reducible repeat (first | apply Kd.R_alloc | apply Kd.R_drewN | apply Kd.R_drew)); exact HO_4.out) (Kd.R_typed (by (with_reducible repeat (first | apply Kd.R_alloc | apply Kd.R_drewN | apply Kd.R_drew)); exact HO_5.out)) (by decide) hg); have n1_ := Aside0.mk (hb); have n2_ := Aside0.mk (ho); clear HO_4; clear HB; clear HO_5; have HO_4 := n0_; have HB := n1_; have HO209 := n2_; clear n0_ n1_ n2_; clear ho hb hg hat))
                                            go_roundg k5
                                            case measure => have := HK1.out; have := HJ5.out; have := HJ26.out; have := HJ37.out; have := HK5.out; omega
                                            case rel => exact ⟨(y207), (wrap64 (x12_5 + 1)), (by first | rfl | (simp; done) | (simp [*]; done)), H', ⟨by have := HK1.out; have := HJ5.out; have := HJ26.out; have := HJ37.out; have := HK5.out; omega⟩, ⟨by (try simp only [hl4_5]); (with_reducible repeat (first | apply Kd.R_alloc | apply Kd.R_drewN | apply Kd.R_drew)); exact HO_4.out⟩, ⟨by (try simp only [hl4_5]); (with_reducible repeat (first | apply Kd.R_alloc | apply Kd.R_drewN | apply Kd.R_drew)); exact HO209.out⟩, ⟨by repeat (first | (with_reducible first | exact HB.out | apply below_alloc | apply pw_below_drewN | apply below_drew1) | exact HB.out)⟩⟩
                                          · rw [if_neg c47] at H
                                            exact absurd H (by simp)
                                        · rw [if_neg c46] at H
                                          have c46b0 : decide (x12_5 ≤ t204) = false := decide_eq_false c46
                                          clear c46
                                          have H' := Aside0.mk H
                                          clear H
                                          go_wp2
                                          (try simp only [← hl4_5])
                                          go_roundg k5
                                          case measure => have := HK1.out; have := HJ5.out; have := HJ26.out; have := HJ37.out; have := HK5.out; omega
                                          case rel => exact ⟨(x4_5), (x5_5), (wrap64 (x6_1 + 1)), (by first | rfl | (simp; done) | (simp [*]; done)), H', ⟨by have := HK1.out; have := HJ5.out; have := HJ26.out; have := HJ37.out; have := HK5.out; omega⟩, ⟨by (try simp only [hl4_5]); (with_reducible repeat (first | apply Kd.R_alloc | apply Kd.R_drewN | apply Kd.R_drew)); exact HO_4.out⟩, ⟨by (try simp only [hl4_5]); (with_reducible repeat (first | apply Kd.R_alloc | apply Kd.R_drewN | apply Kd.R_drew)); exact HO_5.out⟩, ⟨by repeat (first | (with_reducible first | exact HB.out | apply below_alloc | apply pw_below_drewN | apply below_drew1) | exact HB.out)⟩⟩
                      · rw [if_neg c25] at H
                        exact absurd H (by simp)
                    · rw [if_neg c24] at H
                      exact absurd H (by simp)
                  · rw [if_neg c21] at H
                    exact absurd H (by simp)
                · rw [if_neg c19] at H
                  exact absurd H (by simp)
              · rw [if_neg c18] at H
                exact absurd H (by simp)
        · rw [if_neg c5] at H
          have c5b0 : decide (x6_1 < (x4_1.length : Int)) = false := decide_eq_false c5
          clear c5
          replace H := Option.bind_eq_some_iff.mp H
          obtain ⟨t191, A490, H⟩ := H
          replace H : (if t191.toList = a0.toList then (some (x5_1, 0)) else (some (([] : List Int), 4))) = some (r1, r2) := H
          have A49 := Aside0.mk A490
          clear A490
          by_cases c50 : t191.toList = a0.toList
          · rw [if_pos c50] at H
            have c50b0 : (t191.toList == a0.toList) = true := beq_iff_eq.mpr c50
            have c50b1 : (t191.toList != a0.toList) = false := bne_eq_false_iff_eq.mpr c50
            clear c50
            simp only [Option.some.injEq, Prod.mk.injEq] at H
            obtain ⟨rfl, rfl⟩ := H
            obtain ⟨Ao51, co51, eo51⟩ := Kd.R_slice HO_4.out
            subst eo51
            obtain ⟨Ao52, co52, eo52⟩ := Kd.R_slice HO_5.out
            subst eo52
            go_wp2_with (first | ((with_reducible refine gate_callee (f := 28) rfl ?_); refine goesL_ (some 116) rfl rfl Tryd.func28 (by kernel_rfl) rfl #[.slice Ao52 x5_1.length co52] rfl (by (try simp only [List.map_toArray, List.map_cons, List.map_nil]); first | done | rfl | (simp only [List.length_drop, List.length_take]; rfl)) ?_; (with_reducible refine (frisketref27_pages.calls k1 _ _ x5_1 t191 _ ?side1 ?side2 A49.out).mono ?_); (case side1 => repeat (first | exact (Kd.R_reads' HO_5.out).2.2 | (with_reducible refine Kd.C_alloc ?_ _) | (with_reducible refine Kd.C_drewN ?_ _) | (with_reducible refine Kd.C_drew ?_))); (case side2 => exact (Kd.R_reads' HO_5.out).2.1); rintro e w53 ⟨rfl, hb⟩; refine ⟨_, rfl, ?_⟩; have n0_ := Aside0.mk (Kd.R_below (by (with_reducible repeat (first | apply Kd.R_alloc | apply Kd.R_drewN | apply Kd.R_drew)); exact HO_4.out) hb); have n1_ := Aside0.mk (Kd.R_below (by (with_reducible repeat (first | apply Kd.R_alloc | apply Kd.R_drewN | apply Kd.R_drew)); exact HO_5.out) hb); have n2_ := Aside0.mk (below_step (by repeat (first | (with_reducible first | exact HB.out | apply below_alloc | apply pw_below_drewN | apply below_drew1) | exact HB.out)) hb); clear HO_4; clear HO_5; clear HB; have HO_4 := n0_; have HO_5 := n1_; have HB := n2_; clear n0_ n1_ n2_; (try clear hb); (try clear hb2); (try clear hk); (try clear hi)))
            go_ret2
            exact ⟨_, by first | rfl | (simp [errW_none, errW_some] <;> rfl) | (simp [*, errW_none, errW_some] <;> rfl), by (with_reducible repeat (first | apply Kd.R_alloc | apply Kd.R_drewN | apply Kd.R_drew)); exact HO_5.out, by repeat (first | (with_reducible first | exact HB.out | apply below_alloc | apply pw_below_drewN | apply below_drew1) | exact HB.out)⟩
          · rw [if_neg c50] at H
            have c50b0 : (t191.toList == a0.toList) = false := beq_eq_false_iff_ne.mpr c50
            have c50b1 : (t191.toList != a0.toList) = true := bne_iff_ne.mpr c50
            simp only [Option.some.injEq, Prod.mk.injEq] at H
            obtain ⟨rfl, rfl⟩ := H
            obtain ⟨Ao54, co54, eo54⟩ := Kd.R_slice HO_4.out
            subst eo54
            obtain ⟨Ao55, co55, eo55⟩ := Kd.R_slice HO_5.out
            subst eo55
            go_wp2_with (first | ((with_reducible refine gate_callee (f := 28) rfl ?_); refine goesL_ (some 116) rfl rfl Tryd.func28 (by kernel_rfl) rfl #[.slice Ao55 x5_1.length co55] rfl (by (try simp only [List.map_toArray, List.map_cons, List.map_nil]); first | done | rfl | (simp only [List.length_drop, List.length_take]; rfl)) ?_; (with_reducible refine (frisketref27_pages.calls k1 _ _ x5_1 t191 _ ?side1 ?side2 A49.out).mono ?_); (case side1 => repeat (first | exact (Kd.R_reads' HO_5.out).2.2 | (with_reducible refine Kd.C_alloc ?_ _) | (with_reducible refine Kd.C_drewN ?_ _) | (with_reducible refine Kd.C_drew ?_))); (case side2 => exact (Kd.R_reads' HO_5.out).2.1); rintro e w56 ⟨rfl, hb⟩; refine ⟨_, rfl, ?_⟩; have n0_ := Aside0.mk (Kd.R_below (by (with_reducible repeat (first | apply Kd.R_alloc | apply Kd.R_drewN | apply Kd.R_drew)); exact HO_4.out) hb); have n1_ := Aside0.mk (Kd.R_below (by (with_reducible repeat (first | apply Kd.R_alloc | apply Kd.R_drewN | apply Kd.R_drew)); exact HO_5.out) hb); have n2_ := Aside0.mk (below_step (by repeat (first | (with_reducible first | exact HB.out | apply below_alloc | apply pw_below_drewN | apply below_drew1) | exact HB.out)) hb); clear HO_4; clear HO_5; clear HB; have HO_4 := n0_; have HO_5 := n1_; have HB := n2_; clear n0_ n1_ n2_; (try clear hb); (try clear hb2); (try clear hk); (try clear hi)))
            go_ret2
            exact ⟨_, by first | rfl | (simp [errW_none, errW_some] <;> rfl) | (simp [*, errW_none, errW_some] <;> rfl), by first | exact Kd.R_nil _ _ _ _ _ | exact Kd.N_nil _ _ _ _ _ | exact Kd.V_nil _ _ _ _ _ | exact Kd.Q_nil _ _ _ _ _ | exact Kd.S_nil _ _ _ _ _, by repeat (first | (with_reducible first | exact HB.out | apply below_alloc | apply pw_below_drewN | apply below_drew1) | exact HB.out)⟩

end Go.Proofs.YtanekljbehhjcaaDoor.PX

namespace Go.Proofs.YtanekljbehhjcaaDoor
open Go.RowKit Go.Proofs.YtanekljbehhjcaaDoorW.PrintWords Go.Proofs.YtanekljbehhjcaaDoorW.PrintMore Go.Proofs.YtanekljbehhjcaaDoor.PX

/-- The numbers from a to b. -/
def rangeI (a b : Int) : List Int := (List.range (b + 1 - a).toNat).map fun t => a + (t : Nat)
theorem rangeI_none {a b : Int} (h : b < a) : rangeI a b = [] := by
  unfold rangeI; rw [show (b + 1 - a).toNat = 0 by omega]; rfl
theorem rangeI_cons {a b : Int} (h : a ≤ b) : rangeI a b = a :: rangeI (a + 1) b := by
  unfold rangeI
  rw [show (b + 1 - a).toNat = (b + 1 - (a + 1)).toNat + 1 by omega, List.range_succ_eq_map, List.map_cons, List.map_map]
  congr 1
  · simp
  · apply List.map_congr_left; intro t _; simp; omega
/-- What one part tells: from where, to where. -/
def refPart (p : List UInt8) : Option (Int × Int) :=
  let x := segs 45 p
  let a := wholeOf (x.headD [])
  let b := wholeOf (x.getLastD [])
  if a.2 = true ∧ b.2 = true ∧ x.length ≤ 2 ∧ 0 ≤ a.1 ∧ b.1 ≤ 1000000 ∧ a.1 ≤ b.1 then some (a.1, b.1) else none
/-- The reference's loop. -/
def spreadR (first : Bool) (out : List Int) : List (List UInt8) → Option (List Int)
  | [] => some out
  | w :: r =>
    if first = false ∧ w.head? ≠ some 32 then none else
    match refPart (if first then w else w.tail) with
    | none => none
    | some (a, b) => if out ≠ [] ∧ a ≤ out.getLastD 0 then none else spreadR false (out ++ rangeI a b) r
theorem spread_l1 (x0 : ByteArray) (x4 : List ByteArray) (i b : Int) (hb : b ≤ 1000000) (r : List Int × Int) : ∀ (d : Nat) (c : Int) (out : List Int), c + (d : Int) = b + 1 → 0 ≤ c → out.length ≤ 10000000 →
    Ev (fun k => frisketref27_Spread.l0 k x0 x4 (out ++ rangeI c b) (wrap64 (i + 1))) r → out.length + d ≤ 10000000 → Ev (fun k => frisketref27_Spread.l1 k x0 x4 out i b c) r := by
  intro d
  induction d with
  | zero =>
    intro c out h h0 h1 H _
    have k1 : ¬ c ≤ b := by omega
    rw [rangeI_none (by omega), List.append_nil] at H
    exact Ev.step (fun k => by rw [frisketref27_Spread.l1]) (evNeg k1 H)
  | succ d ih =>
    intro c out h h0 h1 H h2
    have k1 : c ≤ b := by omega
    have k2 : out.length < 17592186044416 := by omega
    rw [rangeI_cons k1] at H
    have H2 := ih (c + 1) (out ++ [c]) (by omega) (by omega) (by simp; omega) (by simpa using H) (by simp; omega)
    have e1 : wrap64 (c + 1) = c + 1 := w64 (by omega) (by omega)
    refine Ev.step (fun k => by rw [frisketref27_Spread.l1]) ?_
    rw [e1]
    exact evPos k1 (evPos k2 H2)
theorem head_bar {S : List (List UInt8)} (h : S ≠ []) : rdOf ByteArray.empty (S.map bar) 0 = bar (S.headD []) := by
  cases S with
  | nil => exact (h rfl).elim
  | cons a S => rfl
theorem last_bar {S : List (List UInt8)} (h : S ≠ []) : rdOf ByteArray.empty (S.map bar) ((S.length - 1 : Nat) : Int) = bar (S.getLastD []) := by
  rw [rdOf_nat, List.getD_eq_getElem?_getD, List.getElem?_map]
  have : S[S.length - 1]? = some (S.getLastD []) := by
    cases S with
    | nil => exact (h rfl).elim
    | cons a S => rw [← List.getLast?_eq_getElem?]; rfl
  rw [this]; rfl
theorem last_rd {out : List Int} (h : out ≠ []) : rd out ((out.length - 1 : Nat) : Int) = out.getLastD 0 := by
  rw [rd_nat, List.getD_eq_getElem?_getD]
  have : out[out.length - 1]? = some (out.getLastD 0) := by
    cases out with
    | nil => exact (h rfl).elim
    | cons a S => rw [← List.getLast?_eq_getElem?]; rfl
  rw [this]; rfl
theorem spread_j3 (x0 : ByteArray) (x4 : List ByteArray) (out : List Int) (i a b : Int) (t : Bool) (ha : 0 ≤ a) (hb : b ≤ 1000000) (hab : a ≤ b) (ho : out.length ≤ 5000000) (r : List Int × Int)
    (H : if t = true then r = ([], 4) else Ev (fun k => frisketref27_Spread.l0 k x0 x4 (out ++ rangeI a b) (wrap64 (i + 1))) r) : Ev (fun k => frisketref27_Spread.j3 k x0 x4 out i a b t) r := by
  have k1 : a + ((b + 1 - a).toNat : Int) = b + 1 := by omega
  have k2 : out.length ≤ 10000000 := by omega
  have k3 : out.length + (b + 1 - a).toNat ≤ 10000000 := by omega
  refine Ev.step (fun k => by rw [frisketref27_Spread.j3]) ?_
  cases t with
  | true => rw [if_pos rfl] at H; subst H; exact evPos rfl (Ev.now _)
  | false =>
    rw [if_neg (by simp)] at H
    exact evNeg (by simp) (spread_l1 x0 x4 i b hb r _ a out k1 ha k2 H k3)
theorem spread_j2 (x0 : ByteArray) (x4 : List ByteArray) (out : List Int) (i a b : Int) (ha : 0 ≤ a) (hb : b ≤ 1000000) (hab : a ≤ b) (ho : out.length ≤ 5000000) (r : List Int × Int)
    (H : if out ≠ [] ∧ a ≤ out.getLastD 0 then r = ([], 4) else Ev (fun k => frisketref27_Spread.l0 k x0 x4 (out ++ rangeI a b) (wrap64 (i + 1))) r) : Ev (fun k => frisketref27_Spread.j2 k x0 x4 out i a b false) r := by
  refine Ev.step (fun k => by rw [frisketref27_Spread.j2]) (evNeg (by simp) ?_)
  by_cases h0 : out = []
  · have k1 : ¬ (out.length : Int) > 0 := by subst h0; simp
    rw [if_neg (fun h => h.1 h0)] at H
    exact evNeg k1 (spread_j3 x0 x4 out i a b false ha hb hab ho r (by rw [if_neg (by simp)]; exact H))
  · have h1 : 0 < out.length := List.length_pos_iff.2 h0
    have k1 : (out.length : Int) > 0 := by omega
    have k2 : (0 : Int) ≤ ((out.length - 1 : Nat) : Int) := by omega
    have k3 : ((out.length - 1 : Nat) : Int) < (out.length : Int) := by omega
    have e1 : wrap64 ((out.length : Int) - 1) = ((out.length - 1 : Nat) : Int) := by rw [w64 (by omega) (by omega)]; omega
    rw [e1, last_rd h0]
    refine evPos k1 (evPos k2 (evPos k3 (spread_j3 x0 x4 out i a b _ ha hb hab ho r ?_)))
    by_cases hc : a ≤ out.getLastD 0
    · rw [if_pos ⟨h0, hc⟩] at H
      rw [if_pos (decide_eq_true hc)]; exact H
    · rw [if_neg (fun h => hc h.2)] at H
      rw [if_neg (by rw [decide_eq_false hc]; simp)]; exact H
theorem spread_no (x0 : ByteArray) (x4 : List ByteArray) (out : List Int) (i a b : Int) : Ev (fun k => frisketref27_Spread.j2 k x0 x4 out i a b true) (([] : List Int), 4) :=
  Ev.step (fun k => by rw [frisketref27_Spread.j2]) (evPos rfl (Ev.now _))
theorem spread_j1 (x0 : ByteArray) (x4 : List ByteArray) (out : List Int) (i : Nat) (p : List UInt8) (hi : i < x4.length) (hx : x4.getD i ByteArray.empty = bar p) (hp : p.length ≤ 1000000) (ho : out.length ≤ 5000000) (r : List Int × Int)
    (H : match refPart p with
      | none => r = ([], 4)
      | some (a, b) => if out ≠ [] ∧ a ≤ out.getLastD 0 then r = ([], 4) else Ev (fun k => frisketref27_Spread.l0 k x0 x4 (out ++ rangeI a b) (wrap64 ((i : Int) + 1))) r) : Ev (fun k => frisketref27_Spread.j1 k x0 x4 out (i : Int)) r := by
  have hne := segs_ne 45 p
  have hlen := segs_len 45 p
  have hcut : Ev (fun k => frisketref07_Cut.f k (bar p) 45) ((segs 45 p).map bar) := cut_ev p 45 hp
  have k1 : (0 : Int) ≤ (i : Int) := by omega
  have k2 : (i : Int) < (x4.length : Int) := by omega
  have hh := head_bar hne
  have hl := last_bar hne
  unfold refPart at H
  simp only at H
  generalize segs 45 p = S at hne hlen hcut hh hl H
  have hpos : 0 < S.length := List.length_pos_iff.2 hne
  have k3 : (0 : Int) < ((S.map bar).length : Int) := by rw [List.length_map]; omega
  have k4 : (0 : Int) ≤ ((S.length - 1 : Nat) : Int) := by omega
  have k5 : ((S.length - 1 : Nat) : Int) < ((S.map bar).length : Int) := by rw [List.length_map]; omega
  have e1 : wrap64 (((S.map bar).length : Int) - 1) = ((S.length - 1 : Nat) : Int) := by rw [List.length_map, w64 (by omega) (by omega)]; omega
  have w1 := whole_ev (S.headD [])
  have w2 := whole_ev (S.getLastD [])
  generalize wholeOf (S.headD []) = A at w1 H
  generalize wholeOf (S.getLastD []) = B at w2 H
  obtain ⟨a, oka⟩ := A
  obtain ⟨b, okb⟩ := B
  refine Ev.step (fun k => by rw [frisketref27_Spread.j1]) ?_
  rw [rdOf_nat, hx]
  refine evPos k1 (evPos k2 (Ev.bind hcut (evPos k3 ?_)))
  rw [hh, e1, hl]
  refine Ev.bind w1 (evPos k4 (evPos k5 (Ev.bind w2 ?_)))
  simp only at H ⊢
  cases oka with
  | false => rw [if_neg (by simp)] at H; simp only at H; subst H; exact evNeg (by simp) (spread_no ..)
  | true =>
    refine evPos rfl ?_
    cases okb with
    | false => rw [if_neg (by simp)] at H; simp only at H; subst H; exact evNeg (by simp) (spread_no ..)
    | true =>
      refine evPos rfl ?_
      by_cases h2 : ((S.map bar).length : Int) > 2
      · have h2' : ¬ S.length ≤ 2 := by rw [List.length_map] at h2; omega
        rw [if_neg (fun h => h2' h.2.2.1)] at H; simp only at H; subst H; exact evPos h2 (spread_no ..)
      · have h2' : S.length ≤ 2 := by rw [List.length_map] at h2; omega
        refine evNeg h2 ?_
        by_cases h3 : a < 0
        · rw [if_neg (fun h => by have := h.2.2.2.1; omega)] at H; simp only at H; subst H; exact evPos h3 (spread_no ..)
        · refine evNeg h3 ?_
          by_cases h4 : b > 1000000
          · rw [if_neg (fun h => by have := h.2.2.2.2.1; omega)] at H; simp only at H; subst H; exact evPos h4 (spread_no ..)
          · refine evNeg h4 ?_
            by_cases h5 : a > b
            · rw [if_neg (fun h => by have := h.2.2.2.2.2; omega)] at H; simp only at H; subst H
              rw [decide_eq_true h5]
              exact spread_no ..
            · rw [if_pos ⟨rfl, rfl, h2', by omega, by omega, by omega⟩] at H
              rw [decide_eq_false h5]
              exact spread_j2 x0 x4 out i a b (by omega) (by omega) (by omega) ho r H

/-! ### The whole loop -/
/-- Ascending pages. -/
def OkL (l : List Int) : Prop := l.Pairwise (· < ·) ∧ ∀ x ∈ l, 0 ≤ x ∧ x ≤ 1000000
theorem asc_len (l : List Int) : ∀ lo : Int, l.Pairwise (· < ·) → (∀ x ∈ l, lo ≤ x ∧ x ≤ 1000000) → lo ≤ 1000001 → (l.length : Int) ≤ 1000001 - lo := by
  induction l with
  | nil => intro lo _ _ h; simp; omega
  | cons a l ih =>
    intro lo hp hr h
    have ha := hr a List.mem_cons_self
    have h1 := List.pairwise_cons.1 hp
    have := ih (a + 1) h1.2 (fun x hx => ⟨by have := h1.1 x hx; omega, (hr x (List.mem_cons_of_mem _ hx)).2⟩) (by omega)
    rw [List.length_cons]; omega
theorem OkL.len {l : List Int} (h : OkL l) : l.length ≤ 1000001 := by
  have := asc_len l 0 h.1 h.2 (by decide)
  omega
theorem asc_last (l : List Int) (h : l.Pairwise (· < ·)) : ∀ x ∈ l, x ≤ l.getLastD 0 := by
  intro x hx
  have hne : l ≠ [] := List.ne_nil_of_mem hx
  have e : l.getLastD 0 = l.getLast hne := by
    cases l with
    | nil => exact absurd rfl hne
    | cons a r => rw [List.getLastD_eq_getLast?, List.getLast?_eq_some_getLast hne]; rfl
  rw [e]
  have h1 := List.dropLast_concat_getLast hne
  rw [← h1] at h hx
  rcases List.mem_append.1 hx with h2 | h2
  · have := (List.pairwise_append.1 h).2.2 x h2 _ (List.mem_singleton.2 rfl)
    omega
  · rw [List.mem_singleton.1 h2]; exact Int.le_refl _
theorem rangeI_mem {a b x : Int} : x ∈ rangeI a b ↔ a ≤ x ∧ x ≤ b := by
  unfold rangeI
  rw [List.mem_map]
  constructor
  · rintro ⟨t, ht, rfl⟩
    have := List.mem_range.1 ht
    omega
  · intro h
    exact ⟨(x - a).toNat, List.mem_range.2 (by omega), by omega⟩
theorem rangeI_asc (a b : Int) : (rangeI a b).Pairwise (· < ·) := by
  unfold rangeI
  rw [List.pairwise_map]
  exact List.pairwise_lt_range.imp fun h => by omega
theorem OkL.more {out : List Int} (h : OkL out) {a b : Int} (ha : 0 ≤ a) (hb : b ≤ 1000000) (hc : ¬(out ≠ [] ∧ a ≤ out.getLastD 0)) : OkL (out ++ rangeI a b) := by
  refine ⟨List.pairwise_append.2 ⟨h.1, rangeI_asc a b, fun x hx y hy => ?_⟩, fun x hx => ?_⟩
  · have h1 := asc_last out h.1 x hx
    have h2 := (rangeI_mem.1 hy).1
    have h3 : ¬ a ≤ out.getLastD 0 := fun h => hc ⟨List.ne_nil_of_mem hx, h⟩
    omega
  · rcases List.mem_append.1 hx with h1 | h1
    · exact h.2 x h1
    · have := rangeI_mem.1 h1; omega
theorem refPart_range {p : List UInt8} {a b : Int} (h : refPart p = some (a, b)) : 0 ≤ a ∧ b ≤ 1000000 ∧ a ≤ b := by
  unfold refPart at h
  simp only at h
  split at h
  · rename_i c
    cases h
    exact ⟨c.2.2.2.1, c.2.2.2.2.1, c.2.2.2.2.2⟩
  · cases h
open Classical in
/-- The end of it. -/
noncomputable def finR (s : List UInt8) : Option (List Int) → List Int × Int
  | none => ([], 4)
  | some out => if pagesT out = s then (out, 0) else ([], 4)
theorem spread_l0 (s : List UInt8) : ∀ (W : List (List UInt8)) (i : Nat) (x4 : List ByteArray) (out : List Int), x4.length = i + W.length → x4.drop i = W.map bar → (∀ p ∈ W, p.length ≤ 1000000) → OkL out → x4.length ≤ 2000000 →
    Ev (fun k => frisketref27_Spread.l0 k (bar s) x4 out (i : Int)) (finR s (spreadR (decide (i = 0)) out W)) := by
  intro W
  induction W with
  | nil =>
    intro i x4 out h hd hw ho hn
    have k1 : ¬ (i : Int) < (x4.length : Int) := by rw [List.length_nil] at h; omega
    have hlen := ho.len
    have hpg := pages_ev (l := out) (by omega) ho.2
    refine Ev.step (fun k => by rw [frisketref27_Spread.l0]) (evNeg k1 (Ev.bind hpg ?_))
    rw [bar_toList, bar_toList]
    simp only [spreadR, finR]
    by_cases hc : pagesT out = s
    · rw [if_pos hc, if_pos hc]; exact Ev.now _
    · rw [if_neg hc, if_neg hc]; exact Ev.now _
  | cons w W ih =>
    intro i x4 out h hd hw ho hn
    have hi : i < x4.length := by rw [List.length_cons] at h; omega
    have hlen := ho.len
    have k1 : (i : Int) < (x4.length : Int) := by omega
    have hx : x4.getD i ByteArray.empty = bar w := by
      rw [List.drop_eq_getElem_cons hi, List.map_cons] at hd
      rw [List.getD_eq_getElem?_getD, List.getElem?_eq_getElem hi]
      exact (List.cons.inj hd).1
    have hd2 : x4.drop (i + 1) = W.map bar := by
      rw [List.drop_eq_getElem_cons hi, List.map_cons] at hd
      exact (List.cons.inj hd).2
    have hwl := hw w List.mem_cons_self
    have e1 : wrap64 ((i : Int) + 1) = ((i + 1 : Nat) : Int) := by rw [w64 (by omega) (by omega)]; rfl
    have hrest : ∀ (y4 : List ByteArray), y4.length = x4.length → y4.drop (i + 1) = W.map bar → ∀ p : List UInt8, match refPart p with
      | none => finR s (none : Option (List Int)) = ([], 4)
      | some (a, b) => if out ≠ [] ∧ a ≤ out.getLastD 0 then finR s (none : Option (List Int)) = ([], 4) else Ev (fun k => frisketref27_Spread.l0 k (bar s) y4 (out ++ rangeI a b) (wrap64 ((i : Int) + 1))) (finR s (spreadR false (out ++ rangeI a b) W)) := by
      intro y4 hy1 hy2 p
      cases hp : refPart p with
      | none => rfl
      | some ab =>
        obtain ⟨a, b⟩ := ab
        simp only
        obtain ⟨r1, r2, r3⟩ := refPart_range hp
        split
        · rfl
        · rename_i hc
          rw [e1]
          have := ih (i + 1) y4 (out ++ rangeI a b) (by rw [List.length_cons] at h; omega) hy2 (fun q hq => hw q (List.mem_cons_of_mem _ hq)) (ho.more r1 r2 hc) (by omega)
          rw [decide_eq_false (by omega : ¬ i + 1 = 0)] at this
          exact this
    have hfin : ∀ p : List UInt8, spreadR false out ((32 :: p) :: W) = spreadR true out (p :: W) := fun p => by simp [spreadR]
    have hgo : ∀ (y4 : List ByteArray), y4.length = x4.length → y4.drop (i + 1) = W.map bar → ∀ p : List UInt8, p.length ≤ 1000000 → y4.getD i ByteArray.empty = bar p → Ev (fun k => frisketref27_Spread.j1 k (bar s) y4 out (i : Int)) (finR s (spreadR true out (p :: W))) := by
      intro y4 hy1 hy2 p hpl hyp
      refine spread_j1 (bar s) y4 out i p (by omega) hyp hpl (by omega) _ ?_
      have := hrest y4 hy1 hy2 p
      simp only [spreadR, reduceCtorEq, false_and, if_false, if_true]
      cases hp : refPart p with
      | none => rfl
      | some ab =>
        obtain ⟨a, b⟩ := ab
        rw [hp] at this
        simp only at this ⊢
        split
        · rfl
        · rename_i hc
          rw [if_neg hc] at this
          exact this
    by_cases i0 : i = 0
    · subst i0
      have k2 : ¬ ((0 : Nat) : Int) > 0 := by omega
      refine Ev.step (fun k => by rw [frisketref27_Spread.l0]) (evPos k1 (evNeg k2 ?_))
      exact hgo x4 rfl hd2 w hwl hx
    · have k2 : (i : Int) > 0 := by omega
      have k3 : (0 : Int) ≤ (i : Int) := by omega
      rw [decide_eq_false i0]
      refine Ev.step (fun k => by rw [frisketref27_Spread.l0]) ?_
      rw [rdOf_nat, hx, bar_toList, bar_size]
      refine evPos k1 (evPos k2 (evPos k3 ?_))
      cases w with
      | nil =>
        refine evPos rfl ?_
        rw [show spreadR false out ([] :: W) = none by simp [spreadR]]
        exact Ev.now _
      | cons c w =>
        have k4 : (0 : Int) < ((c :: w).length : Int) := by rw [List.length_cons]; omega
        have k5 : (1 : Int) ≤ ((c :: w).length : Int) := by rw [List.length_cons]; omega
        have hbt : bt (bar (c :: w)) 0 = (c.toNat : Int) := bt_bar' (c :: w) 0 (by simp)
        rw [hbt]
        refine evNeg (by simp) (evPos k4 ?_)
        by_cases hc : c = 32
        · subst hc
          refine evPos (by decide) (evPos k5 ?_)
          rw [hfin, bar_extract, List.take_of_length_le (Nat.le_refl _), Int.toNat_natCast]
          refine hgo _ (by simp) ?_ w (by rw [List.length_cons] at hwl; omega) ?_
          · rw [List.drop_set_of_lt (by omega)]; exact hd2
          · rw [List.getD_eq_getElem?_getD, List.getElem?_set_self hi]; rfl
        · have k6 : ¬ (c.toNat : Int) = 32 := fun e => hc (UInt8.toNat_inj.1 (show c.toNat = (32 : UInt8).toNat from by have : (32 : UInt8).toNat = 32 := rfl; omega))
          refine evNeg k6 ?_
          rw [show spreadR false out ((c :: w) :: W) = none by simp [spreadR, hc]]
          exact Ev.now _
/-- The reference's Spread, whole. -/
theorem spread_ev (s : List UInt8) (hs : s.length ≤ 1000000) (h0 : s ≠ []) : Ev (fun k => frisketref27_Spread.f k (bar s)) (finR s (spreadR true [] (segs 44 s))) := by
  unfold frisketref27_Spread.f
  rw [bar_toList]
  have hcut : Ev (fun k => frisketref07_Cut.f k (bar s) 44) ((segs 44 s).map bar) := cut_ev s 44 hs
  have hl := segs_len 44 s
  refine evNeg h0 (Ev.bind hcut ?_)
  exact spread_l0 s (segs 44 s) 0 _ [] (by simp) rfl (fun p hp => Nat.le_trans (segs_all 44 s p hp) hs) ⟨List.Pairwise.nil, fun x hx => by cases hx⟩ (by rw [List.length_map]; omega)
end Go.Proofs.YtanekljbehhjcaaDoor

namespace Go.Proofs.YtanekljbehhjcaaDoor
open Go.RowKit Go.Proofs.YtanekljbehhjcaaDoorW.PrintWords Go.Proofs.YtanekljbehhjcaaDoorW.PrintMore Go.Proofs.YtanekljbehhjcaaDoor.PX

theorem segs_none (b : UInt8) (p : List UInt8) (h : b ∉ p) : segs b p = [p] := by
  induction p with
  | nil => rfl
  | cons c p ih =>
    have h1 : c ≠ b := fun e => h (by rw [e]; exact List.mem_cons_self)
    rw [segs_off b c p h1, ih (fun e => h (List.mem_cons_of_mem _ e))]; rfl
theorem segs_app (b : UInt8) (p t : List UInt8) (h : b ∉ p) : segs b (p ++ b :: t) = p :: segs b t := by
  induction p with
  | nil => exact segs_at b t
  | cons c p ih =>
    have h1 : c ≠ b := fun e => h (by rw [e]; exact List.mem_cons_self)
    rw [List.cons_append, segs_off b c _ h1, ih (fun e => h (List.mem_cons_of_mem _ e))]; rfl
theorem join_cons2 (p q : List UInt8) (r : List (List UInt8)) : Lib.join (p :: q :: r) comma = p ++ 44 :: (32 :: Lib.join (q :: r) comma) := by
  simp only [Lib.join, List.intercalate, List.intersperse_cons_cons, List.flatten_cons, comma]
  rfl
theorem segs_join (r : List (List UInt8)) : ∀ p : List UInt8, (∀ q ∈ p :: r, (44 : UInt8) ∉ q) → segs 44 (Lib.join (p :: r) comma) = p :: r.map (32 :: ·) := by
  induction r with
  | nil => intro p h; rw [Lib.join_one, segs_none 44 p (h p List.mem_cons_self)]; rfl
  | cons q r ih =>
    intro p h
    rw [join_cons2, segs_app 44 p _ (h p List.mem_cons_self), segs_off 44 32 _ (by decide), ih q (fun x hx => h x (List.mem_cons_of_mem _ hx))]
    rfl
/-- The loop over parts that are trimmed. -/
def spreadP (out : List Int) : List (List UInt8) → Option (List Int)
  | [] => some out
  | p :: r =>
    match refPart p with
    | none => none
    | some (a, b) => if out ≠ [] ∧ a ≤ out.getLastD 0 then none else spreadP (out ++ rangeI a b) r
theorem spreadR_rest (r : List (List UInt8)) : ∀ out, spreadR false out (r.map (32 :: ·)) = spreadP out r := by
  induction r with
  | nil => intro out; rfl
  | cons p r ih =>
    intro out
    simp [spreadR, spreadP, ih] <;> (cases refPart p <;> rfl)
theorem spreadR_all (p : List UInt8) (r : List (List UInt8)) (out : List Int) : spreadR true out (p :: r.map (32 :: ·)) = spreadP out (p :: r) := by
  simp [spreadR, spreadP, spreadR_rest] <;> (cases refPart p <;> rfl)
theorem dec_off (n : Int) (b : UInt8) (hb : b.toNat < 48) : b ∉ dec n := fun h => by
  have := dec_digit n.toNat b h
  omega
theorem dec_whole {n : Int} (h0 : 0 ≤ n) (h1 : n ≤ 1000000) : wholeOf (dec n) = (n, true) := by
  unfold dec
  rw [whole_dec n.toNat (by omega)]
  congr 1; omega
theorem refPart_one {n : Int} (h0 : 0 ≤ n) (h1 : n ≤ 1000000) : refPart (dec n) = some (n, n) := by
  unfold refPart
  rw [segs_none 45 _ (dec_off n 45 (by decide))]
  simp [dec_whole h0 h1, h0, h1]
theorem refPart_two {a b : Int} (h0 : 0 ≤ a) (h1 : b ≤ 1000000) (h2 : a ≤ b) : refPart (dec a ++ 45 :: dec b) = some (a, b) := by
  unfold refPart
  rw [segs_app 45 _ _ (dec_off a 45 (by decide)), segs_none 45 _ (dec_off b 45 (by decide))]
  simp [dec_whole h0 (by omega), dec_whole (n := b) (by omega) h1, h0, h1, h2]
theorem run_range (l : List Int) : ∀ (d k : Nat), k + d + 1 = l.length → rangeI (l.getD k 0) (l.getD (runTo l k) 0) = (l.drop k).take (runTo l k + 1 - k) ∧ l.getD k 0 ≤ l.getD (runTo l k) 0 := by
  intro d
  induction d with
  | zero =>
    intro k h
    have e : runTo l k = k := runTo_stop (fun h2 => by omega)
    have hk : k < l.length := by omega
    rw [e, rangeI_cons (Int.le_refl _), rangeI_none (by omega), show k + 1 - k = 1 by omega, List.drop_eq_getElem_cons hk]
    refine ⟨?_, Int.le_refl _⟩
    rw [List.getD_eq_getElem?_getD, List.getElem?_eq_getElem hk]; rfl
  | succ d ih =>
    intro k h
    have hk : k < l.length := by omega
    have hg : l[k] = l.getD k 0 := by rw [List.getD_eq_getElem?_getD, List.getElem?_eq_getElem hk]; rfl
    by_cases hs : k + 1 < l.length ∧ l.getD (k + 1) 0 = l.getD k 0 + 1
    · have e := runTo_step hs.1 hs.2
      obtain ⟨h1, h2⟩ := ih (k + 1) (by omega)
      have hge := runTo_ge l (k + 1)
      rw [e, rangeI_cons (by omega), ← hs.2, h1, List.drop_eq_getElem_cons hk, hg, show runTo l (k + 1) + 1 - k = (runTo l (k + 1) + 1 - (k + 1)) + 1 by omega, List.take_succ_cons]
      exact ⟨rfl, by omega⟩
    · have e := runTo_stop hs
      rw [e, rangeI_cons (Int.le_refl _), rangeI_none (by omega), show k + 1 - k = 1 by omega, List.drop_eq_getElem_cons hk, hg]
      exact ⟨rfl, Int.le_refl _⟩
theorem cond_no {l : List Int} (ho : OkL l) {i : Nat} (hi : i < l.length) : ¬ (l.take i ≠ [] ∧ l.getD i 0 ≤ (l.take i).getLastD 0) := by
  rintro ⟨h1, h2⟩
  have hm : (l.take i).getLastD 0 ∈ l.take i := by
    cases h : l.take i with
    | nil => exact absurd h h1
    | cons a r => rw [List.getLastD_eq_getLast?, List.getLast?_eq_some_getLast (List.cons_ne_nil a r)]; exact List.getLast_mem _
  have h3 := ho.1
  rw [← List.take_append_drop i l] at h3
  have h4 := (List.pairwise_append.1 h3).2.2 _ hm (l.getD i 0) (by
    rw [List.drop_eq_getElem_cons hi, List.getD_eq_getElem?_getD, List.getElem?_eq_getElem hi]; exact List.mem_cons_self)
  omega
theorem spreadP_parts (l : List Int) (ho : OkL l) (i : Nat) : spreadP (l.take i) (partsFrom l i) = some l := by
  fun_induction partsFrom l i with
  | case1 i h h2 ih =>
    have r1 := getD_range (l := l) ho.2 i
    have r2 := getD_range (l := l) ho.2 (runTo l i)
    obtain ⟨e1, e2⟩ := run_range l (l.length - i - 1) i (by omega)
    have hge := runTo_ge l i
    have e3 : l.take i ++ (l.drop i).take (runTo l i + 1 - i) = l.take (runTo l i + 1) := by
      rw [show runTo l i + 1 = i + (runTo l i + 1 - i) by omega, List.take_add]
      congr 2; omega
    simp only [spreadP, refPart_two r1.1 r2.2 e2]
    rw [if_neg (cond_no ho h), e1, e3]
    exact ih
  | case2 i h h2 ih =>
    have r1 := getD_range (l := l) ho.2 i
    have e3 : l.take i ++ [l.getD i 0] = l.take (i + 1) := by
      rw [List.take_succ_eq_append_getElem h, List.getD_eq_getElem?_getD, List.getElem?_eq_getElem h]; rfl
    simp only [spreadP, refPart_one r1.1 r1.2]
    rw [if_neg (cond_no ho h), rangeI_cons (Int.le_refl _), rangeI_none (by omega), e3]
    exact ih
  | case3 i h =>
    rw [List.take_of_length_le (by omega)]; rfl
theorem parts_off (l : List Int) (i : Nat) : ∀ p ∈ partsFrom l i, (44 : UInt8) ∉ p := by
  fun_induction partsFrom l i with
  | case1 i h h2 ih =>
    intro p hp
    rcases List.mem_cons.1 hp with rfl | hp
    · intro h3
      rcases List.mem_append.1 h3 with h4 | h4
      · exact dec_off _ 44 (by decide) h4
      · rcases List.mem_cons.1 h4 with h5 | h5
        · exact absurd h5 (by decide)
        · exact dec_off _ 44 (by decide) h5
    · exact ih p hp
  | case2 i h h2 ih =>
    intro p hp
    rcases List.mem_cons.1 hp with rfl | hp
    · exact dec_off _ 44 (by decide)
    · exact ih p hp
  | case3 i h => intro p hp; simp at hp
/-- Complete: what Pages writes of ascending pages, the reference's loop spreads to them. -/
theorem spreadR_pages (l : List Int) (ho : OkL l) (h0 : l ≠ []) : spreadR true [] (segs 44 (pagesT l)) = some l := by
  have h1 : partsFrom l 0 ≠ [] := by
    rw [partsFrom, if_pos (List.length_pos_iff.2 h0)]; split <;> simp
  have h2 := parts_off l 0
  have h3 := spreadP_parts l ho 0
  unfold pagesT
  cases hp : partsFrom l 0 with
  | nil => exact absurd hp h1
  | cons p r =>
    rw [hp] at h2 h3
    rw [segs_join r p h2, spreadR_all]
    exact h3
/-- One text is written of one list alone. -/
theorem pagesT_inj {a b : List Int} (ha : OkL a) (hb : OkL b) (a0 : a ≠ []) (b0 : b ≠ []) (h : pagesT a = pagesT b) : a = b := by
  have h1 := spreadR_pages a ha a0
  have h2 := spreadR_pages b hb b0
  rw [h, h2] at h1
  exact (Option.some.inj h1).symm
open Classical in
/-- What a text spreads to. -/
noncomputable def spreadOf (s : List UInt8) : List Int × Int :=
  if s = [] then ([], 0) else if h : ∃ l, OkL l ∧ l ≠ [] ∧ pagesT l = s then (Classical.choose h, 0) else ([], 4)
theorem spreadOf_yes {s : List UInt8} (h0 : s ≠ []) {l : List Int} (ho : OkL l) (hl : l ≠ []) (h : pagesT l = s) : spreadOf s = (l, 0) := by
  have hex : ∃ l, OkL l ∧ l ≠ [] ∧ pagesT l = s := ⟨l, ho, hl, h⟩
  unfold spreadOf
  rw [if_neg h0, dif_pos hex]
  obtain ⟨c1, c2, c3⟩ := Classical.choose_spec hex
  rw [pagesT_inj c1 ho c2 hl (c3.trans h.symm)]
theorem spreadOf_no {s : List UInt8} (h0 : s ≠ []) (h : ¬ ∃ l, OkL l ∧ l ≠ [] ∧ pagesT l = s) : spreadOf s = ([], 4) := by
  unfold spreadOf
  rw [if_neg h0, dif_neg h]
theorem spreadR_ok (W : List (List UInt8)) : ∀ (first : Bool) (out out' : List Int), OkL out → spreadR first out W = some out' → OkL out' := by
  induction W with
  | nil => intro first out out' ho h; simp only [spreadR] at h; cases h; exact ho
  | cons w W ih =>
    intro first out out' ho h
    simp only [spreadR] at h
    split at h
    · cases h
    · split at h
      · cases h
      · rename_i a b hp
        obtain ⟨r1, r2, _⟩ := refPart_range hp
        split at h
        · cases h
        · rename_i hc
          exact ih false _ _ (ho.more r1 r2 hc) h
theorem pagesT_nil : pagesT [] = [] := by
  unfold pagesT
  rw [partsFrom, if_neg (by simp)]
  exact Lib.join_nil comma
theorem finR_is (s : List UInt8) (h0 : s ≠ []) : finR s (spreadR true [] (segs 44 s)) = spreadOf s := by
  by_cases hex : ∃ l, OkL l ∧ l ≠ [] ∧ pagesT l = s
  · obtain ⟨l, h1, h2, h3⟩ := hex
    have h4 := spreadR_pages l h1 h2
    rw [h3] at h4
    rw [h4, spreadOf_yes h0 h1 h2 h3]
    simp only [finR]
    rw [if_pos h3]
  · rw [spreadOf_no h0 hex]
    cases h : spreadR true [] (segs 44 s) with
    | none => rfl
    | some out =>
      have ho := spreadR_ok _ _ _ _ ⟨List.Pairwise.nil, fun x hx => by cases hx⟩ h
      simp only [finR]
      rw [if_neg]
      intro e
      refine hex ⟨out, ho, fun h1 => ?_, e⟩
      subst h1
      rw [pagesT_nil] at e
      exact h0 e.symm
/-- The reference's Spread. -/
theorem refSpread_ev (s : List UInt8) (hs : s.length ≤ 1000000) : Ev (fun k => frisketref27_Spread.f k (bar s)) (spreadOf s) := by
  by_cases h0 : s = []
  · subst h0
    rw [show spreadOf [] = (([] : List Int), (0 : Int)) by unfold spreadOf; rw [if_pos rfl]]
    unfold frisketref27_Spread.f
    rw [bar_toList]
    exact evPos rfl (Ev.now _)
  · rw [← finR_is s h0]
    exact spread_ev s hs h0
end Go.Proofs.YtanekljbehhjcaaDoor

namespace Go.Proofs.YtanekljbehhjcaaDoor
open Go.RowKit Go.Proofs.YtanekljbehhjcaaDoorW.PrintWords Go.Proofs.YtanekljbehhjcaaDoorW.PrintMore Go.Proofs.YtanekljbehhjcaaDoor.PX

/-- What the program reads of one part: from, to; or nothing. -/
def goPart (p : List UInt8) : Option (Int × Int) :=
  let c := cutB p 45
  let n := atoiN c.1
  let m := if c.2.2 = true then atoiN c.2.1 else n
  if atoiB c.1 = true ∧ (c.2.2 = true → atoiB c.2.1 = true) ∧ 0 ≤ n ∧ m ≤ 1000000 then some (n, m) else none
/-- The program's loop over the parts. -/
def spreadQ (out : List Int) : List (List UInt8) → Option (List Int)
  | [] => some out
  | p :: r =>
    match goPart p with
    | none => none
    | some (a, b) => if out ≠ [] ∧ a ≤ out.getLastD 0 then none else spreadQ (out ++ rangeI a b) r
theorem indexByte_off (l : List UInt8) (b : UInt8) (h : b ∉ l) : Lib.indexByte l b = -1 := by
  have hge := Lib.indexByte_ge l b
  by_cases h0 : Lib.indexByte l b = -1
  · exact h0
  · obtain ⟨o, e⟩ := Int.eq_ofNat_of_zero_le (show 0 ≤ Lib.indexByte l b by omega)
    exact absurd (List.mem_of_getElem? (Lib.indexByte_some e).1) h
theorem cutB_off (l : List UInt8) (b : UInt8) (h : b ∉ l) : cutB l b = (l, [], false) := by
  unfold cutB
  rw [indexByte_off l b h, if_neg (by decide)]
theorem dec_atoi {n : Int} (h0 : 0 ≤ n) (h1 : n ≤ 1000000) : atoiB (dec n) = true ∧ atoiN (dec n) = n := by
  have := page_good (dec n) n.toNat (by omega) rfl
  exact ⟨this.1, by rw [this.2.1]; omega⟩
theorem goPart_one {n : Int} (h0 : 0 ≤ n) (h1 : n ≤ 1000000) : goPart (dec n) = some (n, n) := by
  have := dec_atoi h0 h1
  unfold goPart
  rw [cutB_off _ 45 (dec_off n 45 (by decide))]
  simp [this.1, this.2, h0, h1]
theorem goPart_range {p : List UInt8} {a b : Int} (h : goPart p = some (a, b)) : 0 ≤ a ∧ b ≤ 1000000 := by
  unfold goPart at h
  simp only at h
  generalize (if (cutB p 45).2.2 = true then atoiN (cutB p 45).2.1 else atoiN (cutB p 45).1) = m at h
  split at h
  · rename_i c
    cases h
    exact ⟨c.2.2.1, c.2.2.2⟩
  · cases h
theorem spreadQ_ok (W : List (List UInt8)) : ∀ (out out' : List Int), OkL out → spreadQ out W = some out' → OkL out' := by
  induction W with
  | nil => intro out out' ho h; simp only [spreadQ] at h; cases h; exact ho
  | cons w W ih =>
    intro out out' ho h
    simp only [spreadQ] at h
    split at h
    · cases h
    · rename_i a b hp
      obtain ⟨r1, r2⟩ := goPart_range hp
      split at h
      · cases h
      · rename_i hc
        exact ih _ _ (ho.more r1 r2 hc) h
theorem indexByte_at (p t : List UInt8) (b : UInt8) (h : b ∉ p) : Lib.indexByte (p ++ b :: t) b = (p.length : Int) := by
  induction p with
  | nil => simp [Lib.indexByte]
  | cons c p ih =>
    have h1 : c ≠ b := fun e => h (by rw [e]; exact List.mem_cons_self)
    have h2 := ih (fun e => h (List.mem_cons_of_mem _ e))
    rw [List.cons_append]
    simp only [Lib.indexByte, h2]
    simp [h1]
    try omega
theorem goPart_two {a b : Int} (h0 : 0 ≤ a) (h1 : b ≤ 1000000) (h2 : a ≤ b) : goPart (dec a ++ 45 :: dec b) = some (a, b) := by
  have ha := dec_atoi h0 (by omega)
  have hb := dec_atoi (n := b) (by omega) h1
  have hc : cutB (dec a ++ 45 :: dec b) 45 = (dec a, dec b, true) := by
    unfold cutB
    rw [indexByte_at _ _ 45 (dec_off a 45 (by decide)), if_pos (by omega), Int.toNat_natCast]
    simp
  unfold goPart
  rw [hc]
  simp [ha.1, ha.2, hb.1, hb.2, h0, h1]
theorem spreadQ_parts (l : List Int) (ho : OkL l) (i : Nat) : spreadQ (l.take i) (partsFrom l i) = some l := by
  fun_induction partsFrom l i with
  | case1 i h h2 ih =>
    have r1 := getD_range (l := l) ho.2 i
    have r2 := getD_range (l := l) ho.2 (runTo l i)
    obtain ⟨e1, e2⟩ := run_range l (l.length - i - 1) i (by omega)
    have hge := runTo_ge l i
    have e3 : l.take i ++ (l.drop i).take (runTo l i + 1 - i) = l.take (runTo l i + 1) := by
      rw [show runTo l i + 1 = i + (runTo l i + 1 - i) by omega, List.take_add]
      congr 2; omega
    simp only [spreadQ, goPart_two r1.1 r2.2 e2]
    rw [if_neg (cond_no ho h), e1, e3]
    exact ih
  | case2 i h h2 ih =>
    have r1 := getD_range (l := l) ho.2 i
    have e3 : l.take i ++ [l.getD i 0] = l.take (i + 1) := by
      rw [List.take_succ_eq_append_getElem h, List.getD_eq_getElem?_getD, List.getElem?_eq_getElem h]; rfl
    simp only [spreadQ, goPart_one r1.1 r1.2]
    rw [if_neg (cond_no ho h), rangeI_cons (Int.le_refl _), rangeI_none (by omega), e3]
    exact ih
  | case3 i h =>
    rw [List.take_of_length_le (by omega)]; rfl
/-- What strings.SplitSeq(s, ", ") yields. -/
def splitC : Nat → List UInt8 → List (List UInt8)
  | 0, s => [s]
  | n + 1, s => if Lib.index s comma < 0 then [s] else s.take (Lib.index s comma).toNat :: splitC n (s.drop ((Lib.index s comma).toNat + 2))
theorem index_none (p : List UInt8) (h : (44 : UInt8) ∉ p) : Lib.index p comma = -1 := by
  induction p with
  | nil => rfl
  | cons c p ih =>
    have h1 : (44 : UInt8) ≠ c := fun e => h (by rw [e]; exact List.mem_cons_self)
    have h2 := ih (fun e => h (List.mem_cons_of_mem _ e))
    have h3 : (comma.isPrefixOf (c :: p)) = false := by simp [comma, List.isPrefixOf, h1]
    unfold Lib.index
    rw [h3, h2]; rfl
theorem index_at (p t : List UInt8) (h : (44 : UInt8) ∉ p) : Lib.index (p ++ 44 :: 32 :: t) comma = (p.length : Int) := by
  induction p with
  | nil => simp [Lib.index, comma, List.isPrefixOf]
  | cons c p ih =>
    have h1 : (44 : UInt8) ≠ c := fun e => h (by rw [e]; exact List.mem_cons_self)
    have h2 := ih (fun e => h (List.mem_cons_of_mem _ e))
    have h3 : (comma.isPrefixOf (c :: (p ++ 44 :: 32 :: t))) = false := by simp [comma, List.isPrefixOf, h1]
    rw [List.cons_append]
    unfold Lib.index
    rw [h3, h2]
    simp
    try omega
theorem split_join (r : List (List UInt8)) : ∀ (p : List UInt8) (n : Nat), (∀ q ∈ p :: r, (44 : UInt8) ∉ q) → r.length ≤ n → splitC n (Lib.join (p :: r) comma) = p :: r := by
  induction r with
  | nil =>
    intro p n h _
    rw [Lib.join_one]
    cases n with
    | zero => rfl
    | succ n => simp only [splitC]; rw [index_none p (h p List.mem_cons_self), if_pos (by decide)]
  | cons q r ih =>
    intro p n h hn
    cases n with
    | zero => simp at hn
    | succ n =>
      rw [join_cons2]
      simp only [splitC]
      rw [index_at p _ (h p List.mem_cons_self), if_neg (by omega), Int.toNat_natCast]
      have e1 : (p ++ 44 :: 32 :: Lib.join (q :: r) comma).take p.length = p := by simp
      have e2 : (p ++ 44 :: 32 :: Lib.join (q :: r) comma).drop (p.length + 2) = Lib.join (q :: r) comma := by
        rw [← List.drop_drop, List.drop_left]; rfl
      rw [e1, e2, ih q n (fun x hx => h x (List.mem_cons_of_mem _ hx)) (by simp at hn; omega)]
theorem join_len (r : List (List UInt8)) : ∀ p : List UInt8, r.length ≤ (Lib.join (p :: r) comma).length := by
  induction r with
  | nil => intro p; simp
  | cons q r ih =>
    intro p
    rw [join_cons2, List.length_append, List.length_cons, List.length_cons, List.length_cons]
    have := ih q
    omega
/-- The program's way answers the same. -/
theorem finQ_is (s : List UInt8) (h0 : s ≠ []) (n : Nat) (hn : s.length ≤ n) : finR s (spreadQ [] (splitC n s)) = spreadOf s := by
  by_cases hex : ∃ l, OkL l ∧ l ≠ [] ∧ pagesT l = s
  · obtain ⟨l, h1, h2, h3⟩ := hex
    rw [spreadOf_yes h0 h1 h2 h3]
    have k1 : partsFrom l 0 ≠ [] := by
      rw [partsFrom, if_pos (List.length_pos_iff.2 h2)]; split <;> simp
    have k2 := parts_off l 0
    have k3 := spreadQ_parts l h1 0
    have k4 : splitC n s = partsFrom l 0 := by
      unfold pagesT at h3
      cases hp : partsFrom l 0 with
      | nil => exact absurd hp k1
      | cons p r =>
        rw [hp] at h3 k2
        have := join_len r p
        rw [h3] at this
        rw [← h3]
        exact split_join r p n k2 (by omega)
    rw [List.take_zero, ← k4] at k3
    rw [k3]
    simp only [finR]
    rw [if_pos h3]
  · rw [spreadOf_no h0 hex]
    cases h : spreadQ [] (splitC n s) with
    | none => rfl
    | some out =>
      have ho := spreadQ_ok _ _ _ ⟨List.Pairwise.nil, fun x hx => by cases hx⟩ h
      simp only [finR]
      rw [if_neg]
      intro e
      refine hex ⟨out, ho, fun h1 => ?_, e⟩
      subst h1
      rw [pagesT_nil] at e
      exact h0 e.symm
theorem pagesOf_asc {l : List Int} (h : OkL l) : pagesOf l = (bar (pagesT l), 0) := by
  have e : sortD l = l := asc_unique (sortD_asc l) h.1 (sortD_mem l)
  have hb : l.any badPage = false := by
    rw [List.any_eq_false]
    intro x hx
    have := h.2 x hx
    unfold badPage
    simp
    omega
  unfold pagesOf
  rw [hb, e]
  rfl
end Go.Proofs.YtanekljbehhjcaaDoor

namespace Go.Proofs.YtanekljbehhjcaaDoor
open Go.RowKit Go.Shelf Go.Sort Go.Proofs.YtanekljbehhjcaaDoorW.PrintWords
attribute [local go_sem] Oper.semAt_some

theorem spreadQ_snoc (p : List UInt8) : ∀ (W : List (List UInt8)) (o : List Int), spreadQ o (W ++ [p]) = (spreadQ o W).bind fun out => (goPart p).bind fun ab => if out ≠ [] ∧ ab.1 ≤ out.getLastD 0 then none else some (out ++ rangeI ab.1 ab.2)
  | [], o => by
    simp only [List.nil_append, spreadQ, Option.bind_some]
    cases goPart p with
    | none => rfl
    | some ab => rfl
  | w :: W, o => by
    simp only [List.cons_append, spreadQ]
    cases goPart w with
    | none => rfl
    | some ab =>
      simp only
      split
      · rfl
      · exact spreadQ_snoc p W _
theorem spreadQ_none (V : List (List UInt8)) : ∀ (W : List (List UInt8)) (o : List Int), spreadQ o W = none → spreadQ o (W ++ V) = none
  | [], o, h => by simp [spreadQ] at h
  | w :: W, o, h => by
    rw [List.cons_append]
    unfold spreadQ at h ⊢
    cases hg : goPart w with
    | none => rfl
    | some ab =>
      obtain ⟨a, b⟩ := ab
      rw [hg] at h
      simp only at h ⊢
      by_cases hc : o ≠ [] ∧ a ≤ o.getLastD 0
      · rw [if_pos hc]
      · rw [if_neg hc] at h
        rw [if_neg hc]
        exact spreadQ_none V W _ h
theorem splitC_G (n : Nat) : ∀ s : List UInt8, splitG comma n s = splitC n s := by
  induction n with
  | zero => intro s; rfl
  | succ n ih => intro s; simp only [splitG, splitC]; rw [ih]; rfl
theorem cutB_le2 (l : List UInt8) (b : UInt8) : (cutB l b).2.1.length ≤ l.length := by
  unfold cutB; split
  · simp
  · exact Nat.zero_le _
/-- What has been spread of the parts that have come. -/
def outOf (pre : List Sb) : List Int := (spreadQ [] (tl pre)).getD []


/-- Six boxes laid one behind the other. -/
theorem made_six (w : World) (v1 v2 v3 v4 v5 v6 : Value) (t1 t2 t3 t4 t5 t6 : TypeId) :
    Boxed ((((((w.alloc (.cells #[v1] t1)).alloc (.cells #[v2] t2)).alloc (.cells #[v3] t3)).alloc (.cells #[v4] t4)).alloc (.cells #[v5] t5)).alloc (.cells #[v6] t6)) w.heap.size t1 v1 ∧
    Boxed ((((((w.alloc (.cells #[v1] t1)).alloc (.cells #[v2] t2)).alloc (.cells #[v3] t3)).alloc (.cells #[v4] t4)).alloc (.cells #[v5] t5)).alloc (.cells #[v6] t6)) (w.heap.size + 1) t2 v2 ∧
    Boxed ((((((w.alloc (.cells #[v1] t1)).alloc (.cells #[v2] t2)).alloc (.cells #[v3] t3)).alloc (.cells #[v4] t4)).alloc (.cells #[v5] t5)).alloc (.cells #[v6] t6)) (w.heap.size + 1 + 1) t3 v3 ∧
    Boxed ((((((w.alloc (.cells #[v1] t1)).alloc (.cells #[v2] t2)).alloc (.cells #[v3] t3)).alloc (.cells #[v4] t4)).alloc (.cells #[v5] t5)).alloc (.cells #[v6] t6)) (w.heap.size + 1 + 1 + 1) t4 v4 ∧
    Boxed ((((((w.alloc (.cells #[v1] t1)).alloc (.cells #[v2] t2)).alloc (.cells #[v3] t3)).alloc (.cells #[v4] t4)).alloc (.cells #[v5] t5)).alloc (.cells #[v6] t6)) (w.heap.size + 1 + 1 + 1 + 1) t5 v5 ∧
    Boxed ((((((w.alloc (.cells #[v1] t1)).alloc (.cells #[v2] t2)).alloc (.cells #[v3] t3)).alloc (.cells #[v4] t4)).alloc (.cells #[v5] t5)).alloc (.cells #[v6] t6)) (w.heap.size + 1 + 1 + 1 + 1 + 1) t6 v6 ∧
    Below w.heap.size w ((((((w.alloc (.cells #[v1] t1)).alloc (.cells #[v2] t2)).alloc (.cells #[v3] t3)).alloc (.cells #[v4] t4)).alloc (.cells #[v5] t5)).alloc (.cells #[v6] t6)) ∧
    ((((((w.alloc (.cells #[v1] t1)).alloc (.cells #[v2] t2)).alloc (.cells #[v3] t3)).alloc (.cells #[v4] t4)).alloc (.cells #[v5] t5)).alloc (.cells #[v6] t6)).heap.size = w.heap.size + 6 := by
  have b1 := Boxed.new w t1 v1
  have b2 := Boxed.new (w.alloc (.cells #[v1] t1)) t2 v2
  have b3 := Boxed.new ((w.alloc (.cells #[v1] t1)).alloc (.cells #[v2] t2)) t3 v3
  have b4 := Boxed.new (((w.alloc (.cells #[v1] t1)).alloc (.cells #[v2] t2)).alloc (.cells #[v3] t3)) t4 v4
  have b5 := Boxed.new ((((w.alloc (.cells #[v1] t1)).alloc (.cells #[v2] t2)).alloc (.cells #[v3] t3)).alloc (.cells #[v4] t4)) t5 v5
  have b6 := Boxed.new (((((w.alloc (.cells #[v1] t1)).alloc (.cells #[v2] t2)).alloc (.cells #[v3] t3)).alloc (.cells #[v4] t4)).alloc (.cells #[v5] t5)) t6 v6
  simp only [World.size_alloc] at b2 b3 b4 b5 b6
  refine ⟨((((b1.alloc _).alloc _).alloc _).alloc _).alloc _, (((b2.alloc _).alloc _).alloc _).alloc _, ((b3.alloc _).alloc _).alloc _, (b4.alloc _).alloc _, b5.alloc _, b6, ?_, by simp⟩
  exact ((((((Below.refl _ w).alloc (Nat.le_refl _) _).alloc (by simp) _).alloc (by simp; omega) _).alloc (by simp; omega) _).alloc (by simp; omega) _).alloc (by simp; omega) _
/-- Between two rounds: what has been spread lies in a row of its own; the results' cells are as they were. -/
def SpreadI (h base : Nat) (w : World) (pre : List Sb) (W : World) : Prop :=
  spreadQ [] (tl pre) = some (outOf pre) ∧ (∃ v, Boxed W (h + 1 + 1) 23 v ∧ W.ownsRow base 3 1 v (outOf pre).length ((outOf pre).map (Value.int .i64)) ∧ (v = .slice none 0 0 ↔ outOf pre = [])) ∧ Boxed W h 23 (.slice none 0 0) ∧ Boxed W (h + 1) 37 (.int .i64 0) ∧ Below h w W ∧ base ≤ W.heap.size
/-- Behind a round that returned. -/
def SpreadX (h : Nat) (w : World) (pre : List Sb) (W : World) : Prop :=
  spreadQ [] (tl pre) = none ∧ Boxed W h 23 (.slice none 0 0) ∧ Boxed W (h + 1) 37 (.int .i64 4) ∧ Below h w W
theorem ownFrom_base {β : Type} (B base : Nat) : OwnFrom B (fun (_ : β) (W : World) => base ≤ W.heap.size) := fun _ _ _ _ hs hg _ => Nat.le_trans hs hg.size
theorem spreadI_own (h base : Nat) (w : World) (hh : h = w.heap.size ∧ h ≤ base) : OwnFrom base (SpreadI h base w) :=
  OwnFrom.and (ownFrom_pure _ _) (OwnFrom.and (Own.from (holdsRow_own base (h + 1 + 1) 23 3 1 (fun pre => (outOf pre).length) (fun pre => (outOf pre).map (Value.int .i64)) (fun pre v => v = .slice none 0 0 ↔ outOf pre = [])) _)
    (OwnFrom.and (Own.from (boxed_own _ _ _) _) (OwnFrom.and (Own.from (boxed_own _ _ _) _) (OwnFrom.and (ownFrom_below (by omega) hh.2) (ownFrom_base _ _)))))
theorem spreadX_own (h base : Nat) (w : World) (hh : h = w.heap.size ∧ h ≤ base) : OwnFrom base (SpreadX h w) :=
  OwnFrom.and (ownFrom_pure _ _) (OwnFrom.and (Own.from (boxed_own _ _ _) _) (OwnFrom.and (Own.from (boxed_own _ _ _) _) (ownFrom_below (by omega) hh.2)))
theorem row_set {W : World} {base : Nat} {e : TypeId} {size : Nat} {v : Value} {k : Nat} {xs : List Value} (h : W.ownsRow base e size v k xs) {B : Nat} (hB : B < base) (u : Value) : (W.setCell ⟨B, 0, none⟩ u).ownsRow base e size v k xs := by
  refine h.kept (grownBy_setCell' W B u) ?_
  rcases h.2 with ⟨rfl, _⟩ | ⟨g, cap, cur, rfl, hb, _, _⟩
  · exact .inl rfl
  · refine .inr fun e' => ?_
    have : g = B := by simpa [Value.ownBlock] using e'
    omega
theorem spreadI_box (h base : Nat) (w : World) (hb : h + 1 + 1 + 1 < base) : AbidesBox (h + 1 + 1 + 1) (SpreadI h base w) := by
  rintro pre W u ⟨h0, ⟨v, hv, hr, hG⟩, h1, h2, h3, h4⟩
  exact ⟨h0, ⟨v, hv.other (by omega) u, row_set hr hb u, hG⟩, h1.other (by omega) u, h2.other (by omega) u, h3.setCell (p := ⟨h + 1 + 1 + 1, 0, none⟩) (by show h ≤ h + 1 + 1 + 1; omega) u, by simpa using h4⟩
theorem spreadX_box (h : Nat) (w : World) : AbidesBox (h + 1 + 1 + 1) (SpreadX h w) := by
  rintro pre W u ⟨h0, h1, h2, h3⟩
  exact ⟨h0, h1.other (by omega) u, h2.other (by omega) u, h3.setCell (p := ⟨h + 1 + 1 + 1, 0, none⟩) (by show h ≤ h + 1 + 1 + 1; omega) u⟩
theorem spreadI_start {W0 : World} {w : World} (g1 : Boxed W0 w.heap.size 23 (.slice none 0 0)) (g2 : Boxed W0 (w.heap.size + 1) 37 (.int .i64 0)) (g3 : Boxed W0 (w.heap.size + 1 + 1) 23 (.slice none 0 0)) (gb : Below w.heap.size w W0) : SpreadI w.heap.size W0.heap.size w [] W0 :=
  ⟨rfl, ⟨_, g3, World.ownsRow_nil _ _ _ _, by simp [outOf, spreadQ]⟩, g1, g2, gb, Nat.le_refl _⟩

theorem keeps_below {W W1 : World} (B : Nat) (h : Below W.heap.size W W1) : KeepsFrom B W W1 := ⟨h.size, fun k _ _ hk _ => (h.block k (Array.getElem?_eq_some_iff.1 hk).1).trans hk⟩
theorem keepB_below {n₀ Bs : Nat} {W W1 : World} (h : Below W.heap.size W W1) (hn : n₀ ≤ W.heap.size) (hB : Bs + 3 ≤ W.heap.size) : KeepB n₀ Bs W W1 := ⟨h.mono hn, fun k _ h2 => h.block k (by omega)⟩
theorem keepB_set {n₀ Bs b : Nat} (W : World) (u : Value) (hn : n₀ ≤ b) (h : b < Bs) : KeepB n₀ Bs W (W.setCell ⟨b, 0, none⟩ u) :=
  ⟨(Below.refl n₀ W).setCell (p := ⟨b, 0, none⟩) hn u, fun k h1 _ => Below.heap_setCell W ⟨b, 0, none⟩ u k (by show k ≠ b; omega)⟩
/-- Within a round: what has been spread so far; what the round keeps. -/
def SpreadIn (h base : Nat) (w W : World) (L : List Int) (v : Value) (wr : World) : Prop :=
  KeepsFrom base W wr ∧ KeepB h (h + 1 + 1 + 1) W wr ∧ Boxed wr (h + 1 + 1) 23 v ∧ wr.ownsRow base 3 1 v L.length (L.map (Value.int .i64)) ∧ (v = .slice none 0 0 ↔ L = []) ∧ Boxed wr h 23 (.slice none 0 0) ∧ Boxed wr (h + 1) 37 (.int .i64 0) ∧ Below h w wr ∧ base ≤ wr.heap.size
theorem spreadIn_start {h base : Nat} {w W Wk : World} {pre : List Sb} (hI : SpreadI h base w pre W) (hb : Below W.heap.size W Wk) (hh : h + 1 + 1 + 1 + 3 ≤ base) : ∃ v, SpreadIn h base w W (outOf pre) v Wk := by
  obtain ⟨h0, ⟨v, hv, hr, hG⟩, h1, h2, h3, h4⟩ := hI
  exact ⟨v, keeps_below _ hb, keepB_below hb (by omega) (by omega), box_same hv (hb.block _ hv.lt), pw_own_below hr hb, hG, box_same h1 (hb.block _ h1.lt), box_same h2 (hb.block _ h2.lt), h3.trans (hb.mono (by omega)), Nat.le_trans h4 hb.size⟩
theorem spreadIn_push {h base : Nat} {w W wr w1 : World} {L : List Int} {v v' : Value} {z : Int} {tmp : Obj} (hi : SpreadIn h base w W L v wr) (hh : h + 1 + 1 + 1 + 3 ≤ base)
    (hown' : w1.ownsRow base 3 1 v' (L.length + 1) (L.map (Value.int .i64) ++ [.int .i64 z])) (hgrow : (wr.alloc tmp).grownBy w1 v.ownBlock) :
    Boxed w1 (h + 1 + 1) 23 v ∧ SpreadIn h base w W (L ++ [z]) v' (w1.setCell ⟨h + 1 + 1, 0, none⟩ v') := by
  obtain ⟨hk, hkb, hv, hr, hG, h1, h2, h3, h4⟩ := hi
  have hrow : ∀ j, v.ownBlock = some j → base ≤ j := fun j e => own_base hr j e
  have hne : ∀ b, b < base → some b ≠ v.ownBlock := fun b hb e => by have := hrow b e.symm; omega
  have hsame : ∀ b, b < base → w1.heap[b]? = wr.heap[b]? := fun b hb => by
    rw [hgrow.block b (by simp; omega) (hne b hb)]
    exact Below.heap_alloc _ _ _ (by omega)
  have hz1 : wr.heap.size ≤ w1.heap.size := by have := hgrow.size; simp at this; omega
  have hv1 : Boxed w1 (h + 1 + 1) 23 v := box_same hv (hsame _ (by omega))
  refine ⟨hv1, hk.trans ?_, keepB_t hkb (keepB_t ⟨?_, fun k _ hk2 => hsame k (by omega)⟩ (keepB_set _ _ (by omega) (by omega))), hv1.set v', ?_, ?_, (box_same h1 (hsame _ (by omega))).other (by omega) _, (box_same h2 (hsame _ (by omega))).other (by omega) _, ?_, ?_⟩
  · refine (((KeepsOthers.alloc wr tmp).trans (KeepsOthers.of_grownBy hgrow fun j _ ej hj => ?_)).trans (KeepsOthers.setCell _ _ _)).from _
    rcases (hr.alloc tmp).2 with ⟨rfl, _⟩ | ⟨g, cap, cur, rfl, _, hgb, _⟩
    · simp [Value.ownBlock] at ej
    · obtain rfl : g = j := by simpa [Value.ownBlock] using ej
      rw [hgb] at hj; cases hj; rfl
  · exact ((Below.refl h wr).alloc (by omega) tmp).grown hgrow (by simp; omega) fun j ej => by have := hrow j ej; omega
  · have := row_set hown' (B := h + 1 + 1) (by omega) v'
    simpa using this
  · obtain ⟨g, cap, rfl⟩ := ownsRow_succ hown'
    simp
  · exact (h3.trans (((Below.refl h wr).alloc (by omega) tmp).grown hgrow (by simp; omega) fun j ej => by have := hrow j ej; omega)).setCell (p := ⟨h + 1 + 1, 0, none⟩) (by show h ≤ h + 1 + 1; omega) _
  · simp; omega
theorem spreadIn_out {h base : Nat} {w W wr : World} {L : List Int} {v : Value} {pre : List Sb} (hi : SpreadIn h base w W L v wr) (hs : spreadQ [] (tl pre) = some L) : KeepsFrom base W wr ∧ KeepB h (h + 1 + 1 + 1) W wr ∧ SpreadI h base w pre wr := by
  obtain ⟨hk, hkb, hv, hr, hG, h1, h2, h3, h4⟩ := hi
  have e : outOf pre = L := by unfold outOf; rw [hs]; rfl
  exact ⟨hk, hkb, by rw [e]; exact hs, ⟨v, hv, by rw [e]; exact hr, by rw [e]; exact hG⟩, h1, h2, h3, h4⟩
theorem rangeI_len (a b : Int) : (rangeI a b).length = (b + 1 - a).toNat := by unfold rangeI; simp
theorem rangeI_snoc {a k : Int} (h : a ≤ k) : rangeI a k = rangeI a (k - 1) ++ [k] := by
  unfold rangeI
  rw [show (k + 1 - a).toNat = (k - 1 + 1 - a).toNat + 1 by omega, List.range_succ, List.map_append, List.map_cons, List.map_nil]
  congr 2; omega
theorem rangeI_out {a b k : Int} (h : ¬ k ≤ b) (h2 : k ≤ b + 1 ∨ k = a) : rangeI a (k - 1) = rangeI a b := by
  rcases h2 with h2 | rfl
  · rw [show k - 1 = b by omega]
  · rw [rangeI_none (by omega), rangeI_none (by omega)]
theorem SpreadIn.same_list {h base : Nat} {w W wr : World} {L L' : List Int} {v : Value} (hi : SpreadIn h base w W L v wr) (e : L = L') : SpreadIn h base w W L' v wr := by subst e; exact hi
/-- The inner loop's relation. -/
def SpreadL (h base : Nat) (w W : World) (na m : Int) (L : List Int) (p : Value) (wr : World) : Prop :=
  ∃ (k : Int) (v : Value), p = .int .i64 k ∧ na ≤ k ∧ (k ≤ m + 1 ∨ k = na) ∧ SpreadIn h base w W (L ++ rangeI na (k - 1)) v wr
theorem spread_fail {h base : Nat} {w W wr : World} {L : List Int} {v : Value} {pre : List Sb} (hi : SpreadIn h base w W L v wr) (hs : spreadQ [] (tl pre) = none) :
    KeepsFrom base W ((wr.setCell ⟨h, 0, none⟩ (.slice none 0 0)).setCell ⟨h + 1, 0, none⟩ (.int .i64 4)) ∧ SpreadX h w pre ((wr.setCell ⟨h, 0, none⟩ (.slice none 0 0)).setCell ⟨h + 1, 0, none⟩ (.int .i64 4)) := by
  obtain ⟨hk, hkb, hv, hr, hG, h1, h2, h3, h4⟩ := hi
  refine ⟨hk.trans (((KeepsOthers.setCell _ _ _).trans (KeepsOthers.setCell _ _ _)).from _), hs, (h1.set _).other (by omega) _, (h2.other (by omega) _).set _, ?_⟩
  exact (h3.setCell (p := ⟨h, 0, none⟩) (Nat.le_refl _) _).setCell (p := ⟨h + 1, 0, none⟩) (by show h ≤ h + 1; omega) _


set_option maxRecDepth 100000 in
set_option maxHeartbeats 4000000 in
theorem spread_walk (s : ByteArray) (w : World) (hG : GW w) (hs : s.size ≤ 1000000000) (hne : s.data.toList ≠ []) :
    Calls Tryd.prog 11 #[.string s] w fun e w' => ∃ v, e = .returned (.tuple #[v, .int .i64 (spreadOf s.data.toList).2]) ∧ Kd.R (Kd.int .i64) 3 w' w.heap.size (fun _ => True) v (spreadOf s.data.toList).1 ∧ Below w.heap.size w w' := by
  have e3 : s.toList.isEmpty = false := by rw [ByteArray.toList_eq]; simpa using hne
  have hsz : (0:Nat) < w.heap.size := by have := hG.inside; omega
  obtain ⟨m, hm⟩ := hG.mx
  have HE := Lib.hid hne
  clear hne
  generalize hRR : spreadOf s.data.toList = RR
  have HRR := Lib.hid hRR
  clear hRR
  refine (callsIn_wide (n := 12)).1 ?_
  refine callsIn_of_wp_marks Tryd.func11 rfl trivial ?_ rfl
  simp only [Tryd.ntmps11, List.size_toArray, List.length_cons, List.length_nil, Nat.reduceAdd, Nat.reduceSub, Array.replicate_succ, Array.replicate_zero, List.push_toArray, List.append_toArray, List.nil_append, List.cons_append]
  gi_wp2_with (refine ⟨trivial, ?_⟩; gi_at_call 29; refine (splitSeq_in Fence.wide _ trivial trivial rfl (by omega) _ _ _).mono ?_; rintro e w' ⟨rfl, rfl⟩)
  obtain ⟨W0, hW0⟩ : ∃ W0, ((((((w.alloc (.cells #[.slice none 0 0] 23)).alloc (.cells #[.int .i64 0] 37)).alloc (.cells #[.slice none 0 0] 23)).alloc (.cells #[.string s] 9)).alloc (.cells #[.string ⟨#[44, 32]⟩] 9)).alloc (.cells #[.int .i64 0] 3)) = W0 := ⟨_, rfl⟩
  obtain ⟨g1, g2, g3, g4, g5, g6, gb, gz⟩ := made_six w (.slice none 0 0) (.int .i64 0) (.slice none 0 0) (.string s) (.string ⟨#[44, 32]⟩) (.int .i64 0) 23 37 23 9 9 3
  rw [hW0] at g1 g2 g3 g4 g5 g6 gb gz ⊢
  have HW := Lib.hid hW0
  have gz1 := Nat.le_of_eq gz
  have gz2 := Nat.le_of_eq gz.symm
  clear hW0 gz
  refine wpIn_rangeBox rfl (by omega) (gf := 59) (lb := #[.pointer (some ⟨w.heap.size + 1 + 1 + 1 + 1, 0, none⟩), .pointer (some ⟨w.heap.size + 1 + 1 + 1, 0, none⟩), .pointer (some ⟨w.heap.size + 1 + 1 + 1 + 1 + 1, 0, none⟩)]) rfl trivial (enters_of Tryd.func59 (by kernel_rfl) rfl)
    (split_stops _ (by omega) (w.heap.size + 1 + 1 + 1) w.heap.size hsz (by omega) ⟨#[44, 32]⟩ s (by decide) (by decide) hs W0 m ((gb.cell (p := ⟨0, 0, none⟩) hsz).trans hm) (by omega) g4 g5 g6) (by omega) keepB_t (keepB_b (by omega) (by omega)) (fun _ => rfl)
    (fun pre W => SpreadI w.heap.size W0.heap.size w pre W) (fun pre W => SpreadX w.heap.size w pre W) (spreadI_own _ _ _ ⟨rfl, by omega⟩) (spreadX_own _ _ _ ⟨rfl, by omega⟩) (spreadI_box _ _ _ (by omega)) (spreadX_box _ _) (spreadI_start g1 g2 g3 gb)
    (fun x a' _ => a' = { tmps := #[.string s, undef, .pointer (some ⟨w.heap.size, 0, none⟩), .pointer (some ⟨w.heap.size + 1, 0, none⟩), .pointer (some ⟨w.heap.size + 1 + 1, 0, none⟩), .string x.1, undef, undef, undef, undef, undef, undef, undef, undef, undef, .string s, .bool false, .string s, Value.func (.func 59) #[] #[.pointer (some ⟨w.heap.size + 1 + 1 + 1 + 1, 0, none⟩), .pointer (some ⟨w.heap.size + 1 + 1 + 1, 0, none⟩), .pointer (some ⟨w.heap.size + 1 + 1 + 1 + 1 + 1, 0, none⟩)], .string x.1, undef, undef, undef, undef, undef, undef, undef, undef, undef, undef, undef, undef, undef, undef, undef, undef, undef, undef, undef, undef, undef, undef, undef, undef, undef, undef, undef, undef, undef, undef, undef, undef, undef, undef, undef, undef, undef, undef, undef, undef, undef, undef, undef, undef, undef, undef, undef, undef, undef, undef, undef, undef, undef, undef, undef, undef, undef, undef, undef, undef, undef, undef, undef, undef, undef, undef, undef, undef, undef, undef], defers := [] }) (fun _ _ _ _ _ _ hs _ _ => hs) ?assign ?body ?done ?stop
  case assign =>
    intro l pre x W K hi hK
    gi_wp2
    exact hK _ _ (KeepsFrom.refl _ _) ⟨Below.refl _ _, fun _ _ _ => rfl⟩ hi rfl
  case body =>
    obtain ⟨i0, hi1, hz0, hz1, hz2⟩ := info_parts inf3
    rintro l pre x a' W hl ⟨r, hrec⟩ hI rfl hlen
    have hzW : w.heap.size + 6 ≤ W.heap.size := by have := hI.2.2.2.2.2; omega
    have hGW : GW W := hG.under hI.2.2.2.2.1
    have hcut := cut_one x.1 45 W (by have := x.2; omega)
    generalize hc : cutB x.1.data.toList 45 = c at hcut
    obtain ⟨ca, cb, two⟩ := c
    have HC := Lib.hid hc
    have HI := Lib.hid hI
    have HR := Lib.hid hrec
    clear hc hI hrec
    have hx2 := x.2
    have hx3 : x.1.data.toList.length = x.1.size := Array.length_toList
    have hca : ca.length ≤ 1000000000 := by have := cutB_le x.1.data.toList 45; rw [HC.out] at this; simp only at this; omega
    have hcb : cb.length ≤ 1000000000 := by have := cutB_le2 x.1.data.toList 45; rw [HC.out] at this; simp only at this; omega
    have hq1 : ∀ (te : TypeId) (pe : Value) (w : World), (binOp .neq 50 (.iface te pe) .nilIface).run Tryd.prog w = .ok (.bool true) w := fun te pe w => run_neq_held_nil _ _ te pe (by kernel_rfl)
    have hq2 : ∀ (te : TypeId) (pe : Value) (w : World), (binOp .eql 50 (.iface te pe) .nilIface).run Tryd.prog w = .ok (.bool false) w := fun te pe w => run_eql_held_nil _ _ te pe (by kernel_rfl)
    have hgp : goPart x.1.data.toList = if atoiB ca = true ∧ (two = true → atoiB cb = true) ∧ 0 ≤ atoiN ca ∧ (if two = true then atoiN cb else atoiN ca) ≤ 1000000 then some (atoiN ca, if two = true then atoiN cb else atoiN ca) else none := by
      unfold goPart; rw [HC.out]
    have hnr := atoiN_range ca
    have hmr := atoiN_range cb
    have hat : ∀ W1, GW W1 → _ := fun W1 hg => atoi_any (bar ca) W1 (by rw [bar_size]; omega) hg
    have hbt : ∀ W1, GW W1 → _ := fun W1 hg => atoi_any (bar cb) W1 (by rw [bar_size]; omega) hg
    rw [show (bar ca).data.toList = ca from rfl] at hat
    rw [show (bar cb).data.toList = cb from rfl] at hbt
    generalize atoiN ca = na at hgp hnr hat
    generalize atoiB ca = oa at hgp hat
    generalize atoiN cb = nb at hgp hmr hbt
    generalize atoiB cb = ob at hgp hbt
    have HGP := Lib.hid hgp
    clear hgp hx2 hx3
    gi_wp2_with (refine ⟨trivial, ?_⟩; gi_at_call 15; refine (callsIn_wide.2 hcut).mono ?_; rintro e W1 ⟨rfl, hb1⟩)
    have hGW1 := hGW.under hb1
    refine ⟨trivial, ?_⟩
    gi_at_call 16
    refine (callsIn_wide.2 (hat W1 hGW1)).mono ?_
    rintro e W2 ⟨ev, rfl, hy, hn, hb2⟩
    have hb2' := belowThen hb1 hb2
    clear hb1 hb2 hGW1 hat hcut
    cases oa with
    | true =>
      obtain rfl := hy rfl
      clear hy hn
      cases two with
      | false =>
        clear hbt
        by_cases q1 : na < 0
        · have d1 : decide (na < 0) = true := by simpa using q1
          have hgn : spreadQ [] (tl (pre ++ [x])) = none := by
            rw [tl, List.map_append, List.map_cons, List.map_nil, spreadQ_snoc, HI.out.1, HGP.out]; simp; omega
          have HN := Lib.hid hgn
          clear hgn
          obtain ⟨v, hi⟩ := spreadIn_start HI.out hb2' (by omega)
          have k1 := hi.2.2.2.2.2.1.cell
          have k2 := hi.2.2.2.2.2.1.frozen
          have k3 := hi.2.2.2.2.2.2.1.cell
          have k4 := hi.2.2.2.2.2.2.1.frozen
          have k5 := hi.2.2.1.cell
          have k6 := hi.2.2.1.frozen
          have HJ := Lib.hid hi
          clear hi q1
          gi_wp2_with fail
          all_goals first | exact spread_fail HJ.out HN.out | (have hh : some undef = some (Value.bool _) := (by assumption); cases hh)
        · have d1 : decide (na < 0) = false := by simpa using q1
          by_cases q2 : 1000000 < na
          · have d2 : decide (1000000 < na) = true := by simpa using q2
            have hgn : spreadQ [] (tl (pre ++ [x])) = none := by
              rw [tl, List.map_append, List.map_cons, List.map_nil, spreadQ_snoc, HI.out.1, HGP.out]; simp; omega
            have HN := Lib.hid hgn
            clear hgn
            obtain ⟨v, hi⟩ := spreadIn_start HI.out hb2' (by omega)
            have k1 := hi.2.2.2.2.2.1.cell
            have k2 := hi.2.2.2.2.2.1.frozen
            have k3 := hi.2.2.2.2.2.2.1.cell
            have k4 := hi.2.2.2.2.2.2.1.frozen
            have k5 := hi.2.2.1.cell
            have k6 := hi.2.2.1.frozen
            have HJ := Lib.hid hi
            clear hi q1 q2
            gi_wp2_with fail
            all_goals first | exact spread_fail HJ.out HN.out | (have hh : some undef = some (Value.bool _) := (by assumption); cases hh)
          · have d2 : decide (1000000 < na) = false := by simpa using q2
            have hgp2 : goPart x.1.data.toList = some (na, na) := by rw [HGP.out, if_pos (by simp; omega)]; try rfl
            have HGP2 := Lib.hid hgp2
            clear hgp2 HGP
            obtain ⟨v, hi⟩ := spreadIn_start HI.out hb2' (by omega)
            have k1 := hi.2.2.2.2.2.1.cell
            have k2 := hi.2.2.2.2.2.1.frozen
            have k3 := hi.2.2.2.2.2.2.1.cell
            have k4 := hi.2.2.2.2.2.2.1.frozen
            have k5 := hi.2.2.1.cell
            have k6 := hi.2.2.1.frozen
            have hlen := OkL.len (spreadQ_ok _ _ _ ⟨List.Pairwise.nil, fun x hx => by cases hx⟩ HI.out.1)
            have hok := spreadQ_ok _ _ _ ⟨List.Pairwise.nil, fun x hx => by cases hx⟩ HI.out.1
            have hsn : spreadQ [] (tl (pre ++ [x])) = if outOf pre ≠ [] ∧ na ≤ (outOf pre).getLastD 0 then none else some (outOf pre ++ rangeI na na) := by
              rw [tl, List.map_append, List.map_cons, List.map_nil, spreadQ_snoc, HI.out.1, HGP2.out]; rfl
            have HSN := Lib.hid hsn
            have HOK := Lib.hid hok
            clear hsn hok
            generalize outOf pre = L at hi hlen HSN HOK
            cases L with
            | nil =>
              obtain rfl := hi.2.2.2.2.1.2 rfl
              have HJ := Lib.hid hi
              clear hi
              have hsome : spreadQ [] (tl (pre ++ [x])) = some ([] ++ rangeI na na) := by rw [HSN.out, if_neg (by simp)]
              have HS := Lib.hid hsome
              clear hsome
              gi_wp2_with fail
              all_goals first | (have hh : some undef = some (Value.bool _) := (by assumption); cases hh) | skip
              have hi0 : SpreadIn w.heap.size W0.heap.size w W (([] : List Int) ++ rangeI na (na - 1)) (.slice none 0 0) W2 := by rw [rangeI_none (by omega), List.append_nil]; exact HJ.out
              have hlen2 : (([] : List Int)).length ≤ 1000001 := hlen
              have H0 := Lib.hid hi0
              clear hi0 k1 k2 k3 k4 k5 k6
              gi_loopw [12] (fun p wr => SpreadL w.heap.size W0.heap.size w W na na (([] : List Int)) p wr) (fun p _ => (na + 1 - intOf p).toNat)
              case atStart => exact ⟨na, _, rfl, Int.le_refl _, .inr rfl, H0.out⟩
              case round =>
                obtain ⟨k, vv, rfl, p1, p2, hk⟩ := hrel
                clear H0
                by_cases hle : k ≤ na
                · have d5 : decide (k ≤ na) = true := by simpa using hle
                  have hlk : (([] : List Int) ++ rangeI na (k - 1)).length ≤ 2000002 := by rw [List.length_append, rangeI_len]; omega
                  have e1 : (([] : List Int) ++ rangeI na (k - 1)) ++ [k] = ([] : List Int) ++ rangeI na (k + 1 - 1) := by rw [show k + 1 - 1 = k by omega, List.append_assoc, ← rangeI_snoc p1]
                  generalize ([] : List Int) ++ rangeI na (k - 1) = M at hlk e1 hk
                  have hrow := hk.2.2.2.1
                  have hsz := hk.2.2.2.2.2.2.2.2
                  have c1 := hk.2.2.1.cell
                  have E1 := Lib.hid e1
                  have HK := Lib.hid hk
                  clear hk e1
                  gi_wp2_with (gi_at_builtin; refine wpListIn_append_own _ rfl _ _ 23 rfl W0.heap.size 3 i0 (.int .i64 0) 1 8 Tryd.underlying23 hi1 hz0 hz1 hz2 rfl (by decide) _ _ _ rfl (hrow.alloc _) ⟨wr.heap.size, 0, none⟩ 1 1 [.int .i64 k] rfl rfl (cell_one_new _ _ _) (by simp [Value.oneCell']) (by unfold maxLen; omega) (by omega) (by simp; omega) ?_; intro v' w1 hown' hgrow _; obtain ⟨g', cap', rfl⟩ := ownsRow_succ hown'; obtain ⟨hv1, hk2⟩ := spreadIn_push HK.out (by omega) hown' hgrow; have hc1 := hv1.cell; have hf1 := hv1.frozen; have HK2 := Lib.hid hk2; clear hv1 hk2 hown' hgrow)
                  exact ⟨⟨k + 1, _, rfl, by omega, .inl (by omega), HK2.out.same_list E1.out⟩, by simp [intOf]; omega⟩
                · have d5 : decide (k ≤ na) = false := by simpa using hle
                  have HK := Lib.hid hk
                  clear hk
                  gi_wp2
                  refine spreadIn_out (HK.out.same_list (e := ?_)) HS.out
                  congr 1
                  exact rangeI_out (by omega) p2
            | cons y L =>
              obtain ⟨g, cap, rfl⟩ := ownsRow_succ hi.2.2.2.1
              obtain ⟨z, hz⟩ : ∃ z, (y :: L).getLastD 0 = z := ⟨_, rfl⟩
              have hcell : W2.cell? ⟨g, L.length, none⟩ = some (.int .i64 z) := by
                have := hi.2.2.2.1.cells (g := g) rfl L.length (.int .i64 z) (by
                  rw [List.getElem?_map]
                  have : (y :: L)[L.length]? = some z := by
                    rw [← hz, List.getLastD_eq_getLast?, List.getLast?_eq_getElem?]; simp
                  rw [this]; rfl)
                rwa [Addr.add_lit, Nat.zero_add] at this
              have hl3 : L.length ≤ 1000001 := by simp at hlen; omega
              have HZ := Lib.hid hz
              have HJ := Lib.hid hi
              clear hi hz
              by_cases q3 : na ≤ z
              · have d3 : decide (na ≤ z) = true := by simpa using q3
                have hgn : spreadQ [] (tl (pre ++ [x])) = none := by rw [HSN.out, HZ.out, if_pos ⟨by simp, q3⟩]
                have HN := Lib.hid hgn
                clear hgn q1 q2 q3
                gi_wp2_with fail
                all_goals first | exact spread_fail HJ.out HN.out | (have hh : some undef = some (Value.bool _) := (by assumption); cases hh)
              · have d3 : decide (na ≤ z) = false := by simpa using q3
                have hsome : spreadQ [] (tl (pre ++ [x])) = some ((y :: L) ++ rangeI na na) := by rw [HSN.out, HZ.out, if_neg (fun h => q3 h.2)]
                have HS := Lib.hid hsome
                clear hsome q3
                gi_wp2_with fail
                all_goals first | (have hh : some undef = some (Value.bool _) := (by assumption); cases hh) | skip
                have hi0 : SpreadIn w.heap.size W0.heap.size w W (y :: L ++ rangeI na (na - 1)) (.slice (some ⟨g, 0, none⟩) (L.length + 1) cap) W2 := by rw [rangeI_none (by omega), List.append_nil]; exact HJ.out
                have hlen2 : (y :: L).length ≤ 1000001 := hlen
                have H0 := Lib.hid hi0
                clear hi0 k1 k2 k3 k4 k5 k6
                gi_loopw [12] (fun p wr => SpreadL w.heap.size W0.heap.size w W na na (y :: L) p wr) (fun p _ => (na + 1 - intOf p).toNat)
                case atStart => exact ⟨na, _, rfl, Int.le_refl _, .inr rfl, H0.out⟩
                case round =>
                  obtain ⟨k, vv, rfl, p1, p2, hk⟩ := hrel
                  clear H0
                  by_cases hle : k ≤ na
                  · have d5 : decide (k ≤ na) = true := by simpa using hle
                    have hlk : (y :: L ++ rangeI na (k - 1)).length ≤ 2000002 := by rw [List.length_append, rangeI_len]; omega
                    have e1 : (y :: L ++ rangeI na (k - 1)) ++ [k] = y :: L ++ rangeI na (k + 1 - 1) := by rw [show k + 1 - 1 = k by omega, List.append_assoc, ← rangeI_snoc p1]
                    generalize y :: L ++ rangeI na (k - 1) = M at hlk e1 hk
                    have hrow := hk.2.2.2.1
                    have hsz := hk.2.2.2.2.2.2.2.2
                    have c1 := hk.2.2.1.cell
                    have E1 := Lib.hid e1
                    have HK := Lib.hid hk
                    clear hk e1
                    gi_wp2_with (gi_at_builtin; refine wpListIn_append_own _ rfl _ _ 23 rfl W0.heap.size 3 i0 (.int .i64 0) 1 8 Tryd.underlying23 hi1 hz0 hz1 hz2 rfl (by decide) _ _ _ rfl (hrow.alloc _) ⟨wr.heap.size, 0, none⟩ 1 1 [.int .i64 k] rfl rfl (cell_one_new _ _ _) (by simp [Value.oneCell']) (by unfold maxLen; omega) (by omega) (by simp; omega) ?_; intro v' w1 hown' hgrow _; obtain ⟨g', cap', rfl⟩ := ownsRow_succ hown'; obtain ⟨hv1, hk2⟩ := spreadIn_push HK.out (by omega) hown' hgrow; have hc1 := hv1.cell; have hf1 := hv1.frozen; have HK2 := Lib.hid hk2; clear hv1 hk2 hown' hgrow)
                    exact ⟨⟨k + 1, _, rfl, by omega, .inl (by omega), HK2.out.same_list E1.out⟩, by simp [intOf]; omega⟩
                  · have d5 : decide (k ≤ na) = false := by simpa using hle
                    have HK := Lib.hid hk
                    clear hk
                    gi_wp2
                    refine spreadIn_out (HK.out.same_list (e := ?_)) HS.out
                    congr 1
                    exact rangeI_out (by omega) p2
      | true =>
        have hGW2 := hGW.under hb2'
        gi_wp2_with fail
        refine ⟨trivial, ?_⟩
        gi_at_call 16
        refine (callsIn_wide.2 (hbt W2 hGW2)).mono ?_
        rintro e W3 ⟨ev, rfl, hy, hn, hb3⟩
        have hb3' := belowThen hb2' hb3
        clear hb3 hGW2 hbt hb2'
        cases ob with
        | true =>
          obtain rfl := hy rfl
          clear hy hn
          by_cases q1 : na < 0
          · have d1 : decide (na < 0) = true := by simpa using q1
            have hgn : spreadQ [] (tl (pre ++ [x])) = none := by
              rw [tl, List.map_append, List.map_cons, List.map_nil, spreadQ_snoc, HI.out.1, HGP.out]; simp; omega
            have HN := Lib.hid hgn
            clear hgn
            obtain ⟨v, hi⟩ := spreadIn_start HI.out hb3' (by omega)
            have k1 := hi.2.2.2.2.2.1.cell
            have k2 := hi.2.2.2.2.2.1.frozen
            have k3 := hi.2.2.2.2.2.2.1.cell
            have k4 := hi.2.2.2.2.2.2.1.frozen
            have k5 := hi.2.2.1.cell
            have k6 := hi.2.2.1.frozen
            have HJ := Lib.hid hi
            clear hi q1
            gi_wp2_with fail
            all_goals first | exact spread_fail HJ.out HN.out | (have hh : some undef = some (Value.bool _) := (by assumption); cases hh)
          · have d1 : decide (na < 0) = false := by simpa using q1
            by_cases q2 : 1000000 < nb
            · have d2 : decide (1000000 < nb) = true := by simpa using q2
              have hgn : spreadQ [] (tl (pre ++ [x])) = none := by
                rw [tl, List.map_append, List.map_cons, List.map_nil, spreadQ_snoc, HI.out.1, HGP.out]; simp; omega
              have HN := Lib.hid hgn
              clear hgn
              obtain ⟨v, hi⟩ := spreadIn_start HI.out hb3' (by omega)
              have k1 := hi.2.2.2.2.2.1.cell
              have k2 := hi.2.2.2.2.2.1.frozen
              have k3 := hi.2.2.2.2.2.2.1.cell
              have k4 := hi.2.2.2.2.2.2.1.frozen
              have k5 := hi.2.2.1.cell
              have k6 := hi.2.2.1.frozen
              have HJ := Lib.hid hi
              clear hi q1 q2
              gi_wp2_with fail
              all_goals first | exact spread_fail HJ.out HN.out | (have hh : some undef = some (Value.bool _) := (by assumption); cases hh)
            · have d2 : decide (1000000 < nb) = false := by simpa using q2
              have hgp2 : goPart x.1.data.toList = some (na, nb) := by rw [HGP.out, if_pos (by simp; omega)]; try rfl
              have HGP2 := Lib.hid hgp2
              clear hgp2 HGP
              obtain ⟨v, hi⟩ := spreadIn_start HI.out hb3' (by omega)
              have k1 := hi.2.2.2.2.2.1.cell
              have k2 := hi.2.2.2.2.2.1.frozen
              have k3 := hi.2.2.2.2.2.2.1.cell
              have k4 := hi.2.2.2.2.2.2.1.frozen
              have k5 := hi.2.2.1.cell
              have k6 := hi.2.2.1.frozen
              have hlen := OkL.len (spreadQ_ok _ _ _ ⟨List.Pairwise.nil, fun x hx => by cases hx⟩ HI.out.1)
              have hok := spreadQ_ok _ _ _ ⟨List.Pairwise.nil, fun x hx => by cases hx⟩ HI.out.1
              have hsn : spreadQ [] (tl (pre ++ [x])) = if outOf pre ≠ [] ∧ na ≤ (outOf pre).getLastD 0 then none else some (outOf pre ++ rangeI na nb) := by
                rw [tl, List.map_append, List.map_cons, List.map_nil, spreadQ_snoc, HI.out.1, HGP2.out]; rfl
              have HSN := Lib.hid hsn
              have HOK := Lib.hid hok
              clear hsn hok
              generalize outOf pre = L at hi hlen HSN HOK
              cases L with
              | nil =>
                obtain rfl := hi.2.2.2.2.1.2 rfl
                have HJ := Lib.hid hi
                clear hi
                have hsome : spreadQ [] (tl (pre ++ [x])) = some ([] ++ rangeI na nb) := by rw [HSN.out, if_neg (by simp)]
                have HS := Lib.hid hsome
                clear hsome
                gi_wp2_with fail
                all_goals first | (have hh : some undef = some (Value.bool _) := (by assumption); cases hh) | skip
                have hi0 : SpreadIn w.heap.size W0.heap.size w W (([] : List Int) ++ rangeI na (na - 1)) (.slice none 0 0) W3 := by rw [rangeI_none (by omega), List.append_nil]; exact HJ.out
                have hlen2 : (([] : List Int)).length ≤ 1000001 := hlen
                have H0 := Lib.hid hi0
                clear hi0 k1 k2 k3 k4 k5 k6
                gi_loopw [12] (fun p wr => SpreadL w.heap.size W0.heap.size w W na nb (([] : List Int)) p wr) (fun p _ => (nb + 1 - intOf p).toNat)
                case atStart => exact ⟨na, _, rfl, Int.le_refl _, .inr rfl, H0.out⟩
                case round =>
                  obtain ⟨k, vv, rfl, p1, p2, hk⟩ := hrel
                  clear H0
                  by_cases hle : k ≤ nb
                  · have d5 : decide (k ≤ nb) = true := by simpa using hle
                    have hlk : (([] : List Int) ++ rangeI na (k - 1)).length ≤ 2000002 := by rw [List.length_append, rangeI_len]; omega
                    have e1 : (([] : List Int) ++ rangeI na (k - 1)) ++ [k] = ([] : List Int) ++ rangeI na (k + 1 - 1) := by rw [show k + 1 - 1 = k by omega, List.append_assoc, ← rangeI_snoc p1]
                    generalize ([] : List Int) ++ rangeI na (k - 1) = M at hlk e1 hk
                    have hrow := hk.2.2.2.1
                    have hsz := hk.2.2.2.2.2.2.2.2
                    have c1 := hk.2.2.1.cell
                    have E1 := Lib.hid e1
                    have HK := Lib.hid hk
                    clear hk e1
                    gi_wp2_with (gi_at_builtin; refine wpListIn_append_own _ rfl _ _ 23 rfl W0.heap.size 3 i0 (.int .i64 0) 1 8 Tryd.underlying23 hi1 hz0 hz1 hz2 rfl (by decide) _ _ _ rfl (hrow.alloc _) ⟨wr.heap.size, 0, none⟩ 1 1 [.int .i64 k] rfl rfl (cell_one_new _ _ _) (by simp [Value.oneCell']) (by unfold maxLen; omega) (by omega) (by simp; omega) ?_; intro v' w1 hown' hgrow _; obtain ⟨g', cap', rfl⟩ := ownsRow_succ hown'; obtain ⟨hv1, hk2⟩ := spreadIn_push HK.out (by omega) hown' hgrow; have hc1 := hv1.cell; have hf1 := hv1.frozen; have HK2 := Lib.hid hk2; clear hv1 hk2 hown' hgrow)
                    exact ⟨⟨k + 1, _, rfl, by omega, .inl (by omega), HK2.out.same_list E1.out⟩, by simp [intOf]; omega⟩
                  · have d5 : decide (k ≤ nb) = false := by simpa using hle
                    have HK := Lib.hid hk
                    clear hk
                    gi_wp2
                    refine spreadIn_out (HK.out.same_list (e := ?_)) HS.out
                    congr 1
                    exact rangeI_out (by omega) p2
              | cons y L =>
                obtain ⟨g, cap, rfl⟩ := ownsRow_succ hi.2.2.2.1
                obtain ⟨z, hz⟩ : ∃ z, (y :: L).getLastD 0 = z := ⟨_, rfl⟩
                have hcell : W3.cell? ⟨g, L.length, none⟩ = some (.int .i64 z) := by
                  have := hi.2.2.2.1.cells (g := g) rfl L.length (.int .i64 z) (by
                    rw [List.getElem?_map]
                    have : (y :: L)[L.length]? = some z := by
                      rw [← hz, List.getLastD_eq_getLast?, List.getLast?_eq_getElem?]; simp
                    rw [this]; rfl)
                  rwa [Addr.add_lit, Nat.zero_add] at this
                have hl3 : L.length ≤ 1000001 := by simp at hlen; omega
                have HZ := Lib.hid hz
                have HJ := Lib.hid hi
                clear hi hz
                by_cases q3 : na ≤ z
                · have d3 : decide (na ≤ z) = true := by simpa using q3
                  have hgn : spreadQ [] (tl (pre ++ [x])) = none := by rw [HSN.out, HZ.out, if_pos ⟨by simp, q3⟩]
                  have HN := Lib.hid hgn
                  clear hgn q1 q2 q3
                  gi_wp2_with fail
                  all_goals first | exact spread_fail HJ.out HN.out | (have hh : some undef = some (Value.bool _) := (by assumption); cases hh)
                · have d3 : decide (na ≤ z) = false := by simpa using q3
                  have hsome : spreadQ [] (tl (pre ++ [x])) = some ((y :: L) ++ rangeI na nb) := by rw [HSN.out, HZ.out, if_neg (fun h => q3 h.2)]
                  have HS := Lib.hid hsome
                  clear hsome q3
                  gi_wp2_with fail
                  all_goals first | (have hh : some undef = some (Value.bool _) := (by assumption); cases hh) | skip
                  have hi0 : SpreadIn w.heap.size W0.heap.size w W (y :: L ++ rangeI na (na - 1)) (.slice (some ⟨g, 0, none⟩) (L.length + 1) cap) W3 := by rw [rangeI_none (by omega), List.append_nil]; exact HJ.out
                  have hlen2 : (y :: L).length ≤ 1000001 := hlen
                  have H0 := Lib.hid hi0
                  clear hi0 k1 k2 k3 k4 k5 k6
                  gi_loopw [12] (fun p wr => SpreadL w.heap.size W0.heap.size w W na nb (y :: L) p wr) (fun p _ => (nb + 1 - intOf p).toNat)
                  case atStart => exact ⟨na, _, rfl, Int.le_refl _, .inr rfl, H0.out⟩
                  case round =>
                    obtain ⟨k, vv, rfl, p1, p2, hk⟩ := hrel
                    clear H0
                    by_cases hle : k ≤ nb
                    · have d5 : decide (k ≤ nb) = true := by simpa using hle
                      have hlk : (y :: L ++ rangeI na (k - 1)).length ≤ 2000002 := by rw [List.length_append, rangeI_len]; omega
                      have e1 : (y :: L ++ rangeI na (k - 1)) ++ [k] = y :: L ++ rangeI na (k + 1 - 1) := by rw [show k + 1 - 1 = k by omega, List.append_assoc, ← rangeI_snoc p1]
                      generalize y :: L ++ rangeI na (k - 1) = M at hlk e1 hk
                      have hrow := hk.2.2.2.1
                      have hsz := hk.2.2.2.2.2.2.2.2
                      have c1 := hk.2.2.1.cell
                      have E1 := Lib.hid e1
                      have HK := Lib.hid hk
                      clear hk e1
                      gi_wp2_with (gi_at_builtin; refine wpListIn_append_own _ rfl _ _ 23 rfl W0.heap.size 3 i0 (.int .i64 0) 1 8 Tryd.underlying23 hi1 hz0 hz1 hz2 rfl (by decide) _ _ _ rfl (hrow.alloc _) ⟨wr.heap.size, 0, none⟩ 1 1 [.int .i64 k] rfl rfl (cell_one_new _ _ _) (by simp [Value.oneCell']) (by unfold maxLen; omega) (by omega) (by simp; omega) ?_; intro v' w1 hown' hgrow _; obtain ⟨g', cap', rfl⟩ := ownsRow_succ hown'; obtain ⟨hv1, hk2⟩ := spreadIn_push HK.out (by omega) hown' hgrow; have hc1 := hv1.cell; have hf1 := hv1.frozen; have HK2 := Lib.hid hk2; clear hv1 hk2 hown' hgrow)
                      exact ⟨⟨k + 1, _, rfl, by omega, .inl (by omega), HK2.out.same_list E1.out⟩, by simp [intOf]; omega⟩
                    · have d5 : decide (k ≤ nb) = false := by simpa using hle
                      have HK := Lib.hid hk
                      clear hk
                      gi_wp2
                      refine spreadIn_out (HK.out.same_list (e := ?_)) HS.out
                      congr 1
                      exact rangeI_out (by omega) p2
        | false =>
          obtain ⟨te, pe, rfl⟩ := hn rfl
          clear hy hn
          have hgn : spreadQ [] (tl (pre ++ [x])) = none := by
            rw [tl, List.map_append, List.map_cons, List.map_nil, spreadQ_snoc, HI.out.1, HGP.out]; simp
          have HN := Lib.hid hgn
          clear hgn
          obtain ⟨v, hi⟩ := spreadIn_start HI.out hb3' (by omega)
          have k1 := hi.2.2.2.2.2.1.cell
          have k2 := hi.2.2.2.2.2.1.frozen
          have k3 := hi.2.2.2.2.2.2.1.cell
          have k4 := hi.2.2.2.2.2.2.1.frozen
          have k5 := hi.2.2.1.cell
          have k6 := hi.2.2.1.frozen
          have HJ := Lib.hid hi
          clear hi
          gi_wp2_with fail
          all_goals first | exact spread_fail HJ.out HN.out | (have hh : some undef = some (Value.bool _) := (by assumption); cases hh)
    | false =>
      obtain ⟨te, pe, rfl⟩ := hn rfl
      have hgn : spreadQ [] (tl (pre ++ [x])) = none := by
        rw [tl, List.map_append, List.map_cons, List.map_nil, spreadQ_snoc, HI.out.1, HGP.out]; simp
      have HN := Lib.hid hgn
      clear hy hn hbt hgn
      obtain ⟨v, hi⟩ := spreadIn_start HI.out hb2' (by omega)
      have k1 := hi.2.2.2.2.2.1.cell
      have k2 := hi.2.2.2.2.2.1.frozen
      have k3 := hi.2.2.2.2.2.2.1.cell
      have k4 := hi.2.2.2.2.2.2.1.frozen
      have HJ := Lib.hid hi
      clear hi
      gi_wp2_with fail
      all_goals first | exact spread_fail HJ.out HN.out | (have hh : some undef = some (Value.bool _) := (by assumption); cases hh)
  case done =>
    rintro D ys W hD hS hI hK
    have hQ : spreadQ [] (splitC s.size s.data.toList) = some (outOf ys) := by rw [← splitC_G, show (comma : List UInt8) = (⟨#[44, 32]⟩ : ByteArray).data.toList from rfl, ← hS]; exact hI.1
    have hok := spreadQ_ok _ _ _ ⟨List.Pairwise.nil, fun x hx => by cases hx⟩ hQ
    have hfin : RR = finR s.data.toList (some (outOf ys)) := by rw [← hQ, finQ_is _ HE.out s.size (Nat.le_of_eq Array.length_toList), HRR.out]
    obtain ⟨_, ⟨v, hv, hr, hnil⟩, h1, h2, h3, h4⟩ := hI
    generalize outOf ys = L at hr hnil hok hfin
    have hlen := hok.len
    have hbad : L.any badPage = false := by
      rw [List.any_eq_false]; intro x hx; have := hok.2 x hx; unfold badPage; simp; omega
    have hpo := pagesOf_asc hok
    obtain ⟨A, c, rfl, hC⟩ := own_reads_row hr (Kd.reps_scalar (enc := Value.int .i64) L) rfl
    have hpg := pages_ok A c L W (hG.under h3) hC (by omega) hbad
    rw [hpo] at hpg
    have c0 := hv.cell
    have HF := Lib.hid hfin
    have HH : Hid _ := Lib.hid (And.intro hr (And.intro h1 (And.intro h2 (And.intro h3 (And.intro h4 (And.intro hok (And.intro hnil hK)))))))
    clear hfin hQ hok hr h1 h2 hnil h3 h4 hpo hbad hC hv hK
    gi_wp2_with (refine ⟨trivial, ?_⟩; gi_at_call 9; refine (callsIn_wide.2 hpg).mono ?_; rintro e W2 ⟨rfl, hb2⟩; clear hpg; have c1 := box_same HH.out.2.1 (hb2.block _ HH.out.2.1.lt); have c2 := box_same HH.out.2.2.1 (hb2.block _ HH.out.2.2.1.lt); have c3 := (hb2.cell (World.block_lt_of_cell? _ _ c0)).trans c0; have c4 := c1.cell; have c5 := c1.frozen; have c6 := c2.cell; have c7 := c2.frozen)
    · rename_i hne
      have hR : RR = ([], 4) := by
        rw [HF.out]; simp only [finR]
        rw [if_neg]
        intro e
        rw [ByteArray.toList_eq, ByteArray.toList_eq, ← e] at hne
        simp [bar] at hne
      have hK' := ((KeepsOthers.setCell W2 ⟨w.heap.size, 0, none⟩ (.slice none 0 0)).trans (KeepsOthers.setCell _ ⟨w.heap.size + 1, 0, none⟩ (.int .i64 4))).same D _ ((hb2.block _ (Array.getElem?_eq_some_iff.1 HH.out.2.2.2.2.2.2.2).1).trans HH.out.2.2.2.2.2.2.2) rfl
      refine ⟨by simp, .inl ⟨_, _, rfl, run_takeDeferred hK', ?_⟩⟩
      have d1 := cell_kept ((c1.set (.slice none 0 0)).other (B' := w.heap.size + 1) (by omega) (.int .i64 4)).cell (grownBy_putObj' _ D (.deferred none)) (fun r e => by cases e; exact ⟨_, hK', rfl⟩)
      have d2 := cell_kept (((c2.other (B' := w.heap.size) (by omega) (.slice none 0 0))).set (.int .i64 4)).cell (grownBy_putObj' _ D (.deferred none)) (fun r e => by cases e; exact ⟨_, hK', rfl⟩)
      have hbe := (((HH.out.2.2.2.1.trans (hb2.mono (by have := HH.out.2.2.2.2.1; omega))).setCell (p := ⟨w.heap.size, 0, none⟩) (Nat.le_refl _) (.slice none 0 0)).setCell (p := ⟨w.heap.size + 1, 0, none⟩) (by show w.heap.size ≤ w.heap.size + 1; omega) (.int .i64 4)).trans (belowK_b (w := w) (Nat.le_refl _) _ D _ (.deferred none) (by omega) hK' rfl rfl)
      exact ⟨.tuple #[.slice none 0 0, .int .i64 4], by simp [results, Tryd.f11, go_sem, d1, d2], _, by rw [hR], by rw [hR]; exact Kd.R_nil _ _ _ _ _, hbe⟩
    · rename_i heq
      have hR : RR = (L, 0) := by
        rw [HF.out]; simp only [finR]
        rw [if_pos]
        rw [ByteArray.toList_eq, ByteArray.toList_eq] at heq
        simpa [bar] using heq
      have hK' := ((KeepsOthers.setCell W2 ⟨w.heap.size, 0, none⟩ (.slice A L.length c)).trans (KeepsOthers.setCell _ ⟨w.heap.size + 1, 0, none⟩ (.int .i64 0))).same D _ ((hb2.block _ (Array.getElem?_eq_some_iff.1 HH.out.2.2.2.2.2.2.2).1).trans HH.out.2.2.2.2.2.2.2) rfl
      refine ⟨by simp, .inl ⟨_, _, rfl, run_takeDeferred hK', ?_⟩⟩
      have d1 := cell_kept ((c1.set (.slice A L.length c)).other (B' := w.heap.size + 1) (by omega) (.int .i64 0)).cell (grownBy_putObj' _ D (.deferred none)) (fun r e => by cases e; exact ⟨_, hK', rfl⟩)
      have d2 := cell_kept (((c2.other (B' := w.heap.size) (by omega) (.slice A L.length c))).set (.int .i64 0)).cell (grownBy_putObj' _ D (.deferred none)) (fun r e => by cases e; exact ⟨_, hK', rfl⟩)
      have hbe := (((HH.out.2.2.2.1.trans (hb2.mono (by have := HH.out.2.2.2.2.1; omega))).setCell (p := ⟨w.heap.size, 0, none⟩) (Nat.le_refl _) (.slice A L.length c)).setCell (p := ⟨w.heap.size + 1, 0, none⟩) (by show w.heap.size ≤ w.heap.size + 1; omega) (.int .i64 0)).trans (belowK_b (w := w) (Nat.le_refl _) _ D _ (.deferred none) (by omega) hK' rfl rfl)
      have hown := ownsRow_putObj (row_set (row_set (pw_own_below HH.out.1 hb2) (B := w.heap.size) (by omega) (.slice A L.length c)) (B := w.heap.size + 1) (by omega) (.int .i64 0)) (.deferred none) hK' rfl
      exact ⟨.tuple #[.slice A L.length c, .int .i64 0], by simp [results, Tryd.f11, go_sem, d1, d2], _, by rw [hR], by rw [hR]; exact Kd.R_of_own (own_weaken hown (by omega)) (fun _ _ => trivial), hbe⟩
  case stop =>
    rintro D pre W hD hS hX hK
    have hQ : spreadQ [] (splitC s.size s.data.toList) = none := by
      obtain ⟨V, hV⟩ := hS
      rw [← splitC_G, show (comma : List UInt8) = (⟨#[44, 32]⟩ : ByteArray).data.toList from rfl, ← hV]
      exact spreadQ_none V _ _ hX.1
    have hsp : RR = ([], 4) := by rw [← HRR.out, ← finQ_is _ HE.out s.size (Nat.le_of_eq Array.length_toList), hQ]; rfl
    obtain ⟨h0, h1, h2, h3⟩ := hX
    have HSP := Lib.hid hsp
    clear hsp hQ
    gi_wp2
    refine ⟨by simp, .inl ⟨_, _, rfl, run_takeDeferred hK, ?_⟩⟩
    have c1 := cell_kept h1.cell (grownBy_putObj' _ D (.deferred none)) (fun r e => by cases e; exact ⟨_, hK, rfl⟩)
    have c2 := cell_kept h2.cell (grownBy_putObj' _ D (.deferred none)) (fun r e => by cases e; exact ⟨_, hK, rfl⟩)
    refine ⟨.tuple #[.slice none 0 0, .int .i64 4], by simp [results, Tryd.f11, go_sem, c1, c2], _, by rw [HSP.out], by rw [HSP.out]; exact Kd.R_nil _ _ _ _ _, h3.trans (belowK_b (w := w) (Nat.le_refl _) W D _ _ (by omega) hK rfl rfl)⟩
set_option maxRecDepth 100000 in
theorem spread_empty (s : ByteArray) (w : World) (he : s.data.toList = []) :
    Calls Tryd.prog 11 #[.string s] w fun e w' => ∃ v, e = .returned (.tuple #[v, .int .i64 (spreadOf s.data.toList).2]) ∧ Kd.R (Kd.int .i64) 3 w' w.heap.size (fun _ => True) v (spreadOf s.data.toList).1 ∧ Below w.heap.size w w' := by
  have e3 : s.toList.isEmpty = true := by rw [ByteArray.toList_eq, he]; rfl
  have hR : spreadOf s.data.toList = ([], 0) := by unfold spreadOf; rw [if_pos he]
  generalize spreadOf s.data.toList = R at hR ⊢
  subst hR
  clear he
  refine (callsIn_wide (n := 12)).1 ?_
  refine callsIn_of_wp_marks Tryd.func11 rfl trivial ?_ rfl
  simp only [Tryd.ntmps11, List.size_toArray, List.length_cons, List.length_nil, Nat.reduceAdd, Nat.reduceSub, Array.replicate_succ, Array.replicate_zero, List.push_toArray, List.append_toArray, List.nil_append, List.cons_append]
  gi_wp2_with fail
  refine ⟨.tuple #[.slice none 0 0, .int .i64 0], by simp [results, Tryd.f11, go_sem], _, rfl, Kd.R_nil _ _ _ _ _, ?_⟩
  exact (((Below.refl _ w).alloc (Nat.le_refl _) _).alloc (by simp) _).alloc (by simp; omega) _
/-- What it comes to, to be reckoned. -/
def goSpread (s : List UInt8) : List Int × Int :=
  if s = [] then ([], 0) else match spreadQ [] (splitC s.length s) with
    | none => ([], 4)
    | some out => if pagesT out = s then (out, 0) else ([], 4)
theorem goSpread_is (s : List UInt8) : goSpread s = spreadOf s := by
  unfold goSpread
  by_cases h : s = []
  · rw [if_pos h]; unfold spreadOf; rw [if_pos h]
  · rw [if_neg h, ← finQ_is s h s.length (Nat.le_refl _)]
    cases spreadQ [] (splitC s.length s) <;> rfl
def index_Spread.f (s : ByteArray) : Option (List Int × Int) := if s.size ≤ 1000000000 then some (goSpread s.data.toList) else none
/-- As the printed callers ask it. -/
theorem index_Spread.calls (a0 : ByteArray) (r1 : List Int) (r2 : Int) (w : World) (hG : GW w) (h : index_Spread.f a0 = some (r1, r2)) :
    Calls Tryd.prog 11 #[.string a0] w fun e w' => ∃ v0_, e = .returned (.tuple #[v0_, .int .i64 r2]) ∧ Kd.R (Kd.int .i64) 3 w' w.heap.size (fun _ => True) v0_ r1 ∧ Below w.heap.size w w' := by
  unfold index_Spread.f at h
  split at h
  · rename_i hl
    have e := Option.some.inj h
    rw [goSpread_is] at e
    by_cases he : a0.data.toList = []
    · have := spread_empty a0 w he
      rw [e] at this; exact this
    · have := spread_walk a0 w hG hl he
      rw [e] at this; exact this
  · cases h
end Go.Proofs.YtanekljbehhjcaaDoor

namespace Go.Proofs.YtanekljbehhjcaaDoor.PX
open Go.RowKit Go.Proofs.YtanekljbehhjcaaDoorW.PrintWords Go.Proofs.YtanekljbehhjcaaDoorW.PrintLast Go.Proofs.YtanekljbehhjcaaDoorW.PrintMore
attribute [local go_sem] max2_int min2_int max_two min_two max_three min_three max_four min_four   -- for this text's walks alone
set_option linter.unusedVariables false
set_option linter.unusedSimpArgs false

/-! ### frisketlaw27_numbers: function 13 -/
def frisketlaw27_numbers.l0 : Nat → List Int → List Int → Int → Option (Bool)
  | 0, _, _, _ => none
  | k + 1, x0, x1, x5 => if x5 < (x0.length : Int) then (if 0 ≤ x5 then (if x5 < (x1.length : Int) then (if (rd x0 x5) = (rd x1 x5) then (frisketlaw27_numbers.l0 k x0 x1 (wrap64 (x5 + 1))) else (some false)) else (none)) else (none)) else (some true)
def frisketlaw27_numbers.f (k : Nat) (l0 : List Int) (l1 : List Int) : Option (Bool) := if (l0.length : Int) = (l1.length : Int) then (frisketlaw27_numbers.l0 k l0 l1 0) else (some false)
theorem frisketlaw27_numbers.mono_l : ∀ k, (∀ y0 y1 y2, LeO (frisketlaw27_numbers.l0 k y0 y1 y2) (frisketlaw27_numbers.l0 (k + 1) y0 y1 y2))
  | 0 => fun _ _ _ r h => by simp [frisketlaw27_numbers.l0] at h
  | k + 1 => by
    have ih0 := frisketlaw27_numbers.mono_l k
    · intro y0 y1 y2
      unfold frisketlaw27_numbers.l0
      repeat' first
      | (with_reducible exact ih0 _ _ _)
      | (with_reducible exact LeO.refl _)
      | (with_reducible exact LeO.none _)
      | (with_reducible refine LeO.ite ?_ ?_)
      | (with_reducible refine LeO.bind ?_ (fun _ => ?_))
      | exact ih0 _ _ _
      | exact LeO.none _
      | refine LeO.ite ?_ ?_
      | refine LeO.bind ?_ (fun _ => ?_)
theorem frisketlaw27_numbers.mono : ∀ a0 a1 k, LeO (frisketlaw27_numbers.f k a0 a1) (frisketlaw27_numbers.f (k + 1) a0 a1) := by
  intro a0 a1 k
  have ih0 := frisketlaw27_numbers.mono_l k
  unfold frisketlaw27_numbers.f
  repeat' first
      | (with_reducible exact ih0 _ _ _)
      | (with_reducible exact LeO.refl _)
      | (with_reducible exact LeO.none _)
      | (with_reducible refine LeO.ite ?_ ?_)
      | (with_reducible refine LeO.bind ?_ (fun _ => ?_))
      | exact ih0 _ _ _
      | exact LeO.none _
      | refine LeO.ite ?_ ?_
      | refine LeO.bind ?_ (fun _ => ?_)
set_option maxHeartbeats 8000000 in
set_option maxRecDepth 100000 in
theorem frisketlaw27_numbers.calls (k : Nat) (A0 : Option Addr) (c0 : Nat) (l0 : List Int) (A1 : Option Addr) (c1 : Nat) (l1 : List Int) (r : Bool) (w : World) (hr0 : Kd.C (Kd.int .i64) w A0 l0.length l0) (hc0 : l0.length ≤ c0) (hr1 : Kd.C (Kd.int .i64) w A1 l1.length l1) (hc1 : l1.length ≤ c1) (h : frisketlaw27_numbers.f k l0 l1 = some r) :
    Calls Tryd.prog 13 #[.slice A0 l0.length c0, .slice A1 l1.length c1] w fun e w' => e = .returned (.bool r) ∧ Drawn0 w w' := by
  have HR0 := Aside0.mk hr0
  have HC0 := Aside0.mk hc0
  clear hr0 hc0
  have HR1 := Aside0.mk hr1
  have HC1 := Aside0.mk hc1
  clear hr1 hc1
  have H : (if (l0.length : Int) = (l1.length : Int) then (frisketlaw27_numbers.l0 k l0 l1 0) else (some false)) = some r := h
  clear h
  by_cases c3 : (l0.length : Int) = (l1.length : Int)
  · rw [if_pos c3] at H
    have c3b0 : ((l0.length : Int) == (l1.length : Int)) = true := beq_iff_eq.mpr c3
    have c3b1 : ((l0.length : Int) != (l1.length : Int)) = false := bne_eq_false_iff_eq.mpr c3
    have c3b2 : (l0.length == l1.length) = true := by first | simpa using c3 | (simp at c3 ⊢; omega)
    clear c3
    have H' := Aside0.mk H
    clear H
    go_enter Tryd.func13, Tryd.ntmps13
    go_wp2
    repeat (go_quiet (fail); try go_wp2)
    go_loopg [5] k (fun kq v5 w' => ∃ (x5_1 : Int), v5 = .int .i64 x5_1 ∧ Aside0 (frisketlaw27_numbers.l0 kq l0 l1 x5_1 = some r) ∧ Aside0 (kq ≤ k) ∧ Drawn0 w w')
    case atStart => exact ⟨(0), (by first | rfl | (simp; done) | (simp [*]; done)), H', ⟨Nat.le_refl _⟩, by repeat (first | exact Drawn0.refl _ | apply Drawn0.step)⟩
    case round =>
      clear H'
      try clear c1
      try clear p2
      try clear c3
      try clear c3b0
      try clear c3b1
      try clear c3b2
      obtain ⟨x5_1, rfl, HA, HK1, ⟨m1, rfl⟩⟩ := hrel
      cases gk with
      | zero => exact absurd HA.out (by simp [frisketlaw27_numbers.l0])
      | succ k1 =>
        have H := HA.out
        clear HA
        simp only [frisketlaw27_numbers.l0] at H
        by_cases c4 : x5_1 < (l0.length : Int)
        · rw [if_pos c4] at H
          have c4b0 : decide (x5_1 < (l0.length : Int)) = true := decide_eq_true c4
          clear c4
          by_cases c5 : 0 ≤ x5_1
          · rw [if_pos c5] at H
            have c5b0 : decide (0 ≤ x5_1) = true := decide_eq_true c5
            clear c5
            by_cases c6 : x5_1 < (l1.length : Int)
            · rw [if_pos c6] at H
              have c6b0 : decide (x5_1 < (l1.length : Int)) = true := decide_eq_true c6
              clear c6
              by_cases c7 : (rd l0 x5_1) = (rd l1 x5_1)
              · rw [if_pos c7] at H
                have c7b0 : ((rd l0 x5_1) == (rd l1 x5_1)) = true := beq_iff_eq.mpr c7
                have c7b1 : ((rd l0 x5_1) != (rd l1 x5_1)) = false := bne_eq_false_iff_eq.mpr c7
                clear c7
                have H' := Aside0.mk H
                clear H
                have p210 : 0 ≤ (x5_1 : Int) := of_decide_eq_true (by first | (with_reducible assumption) | assumption)
                have q210 : x5_1 < (l0.length : Int) := of_decide_eq_true (by first | (with_reducible assumption) | assumption)
                obtain ⟨ad210, e210, hx210_0⟩ := Kd.at_int HR0.out x5_1 p210 q210
                cases e210
                replace p210 := eq_true p210
                replace q210 := eq_true q210
                have p211 : 0 ≤ (x5_1 : Int) := of_decide_eq_true (by first | (with_reducible assumption) | assumption)
                have q211 : x5_1 < (l1.length : Int) := of_decide_eq_true (by first | (with_reducible assumption) | assumption)
                obtain ⟨ad211, e211, hx211_0⟩ := Kd.at_int HR1.out x5_1 p211 q211
                cases e211
                replace p211 := eq_true p211
                replace q211 := eq_true q211
                go_wp2
                repeat (go_quiet (fail); try go_wp2)
                go_roundg k1
                case measure => have := HK1.out; omega
                case rel => exact ⟨(wrap64 (x5_1 + 1)), (by first | rfl | (simp; done) | (simp [*]; done)), H', ⟨by have := HK1.out; omega⟩, by repeat (first | exact Drawn0.refl _ | apply Drawn0.step)⟩
              · rw [if_neg c7] at H
                have c7b0 : ((rd l0 x5_1) == (rd l1 x5_1)) = false := beq_eq_false_iff_ne.mpr c7
                have c7b1 : ((rd l0 x5_1) != (rd l1 x5_1)) = true := bne_iff_ne.mpr c7
                obtain rfl := Option.some.inj H
                have p210 : 0 ≤ (x5_1 : Int) := of_decide_eq_true (by first | (with_reducible assumption) | assumption)
                have q210 : x5_1 < (l0.length : Int) := of_decide_eq_true (by first | (with_reducible assumption) | assumption)
                obtain ⟨ad210, e210, hx210_0⟩ := Kd.at_int HR0.out x5_1 p210 q210
                cases e210
                replace p210 := eq_true p210
                replace q210 := eq_true q210
                have p211 : 0 ≤ (x5_1 : Int) := of_decide_eq_true (by first | (with_reducible assumption) | assumption)
                have q211 : x5_1 < (l1.length : Int) := of_decide_eq_true (by first | (with_reducible assumption) | assumption)
                obtain ⟨ad211, e211, hx211_0⟩ := Kd.at_int HR1.out x5_1 p211 q211
                cases e211
                replace p211 := eq_true p211
                replace q211 := eq_true q211
                go_wp2
                repeat (go_quiet (fail); try go_wp2)
                go_ret
                exact ⟨by first | rfl | (simp; done) | (simp [*]; done), by repeat (first | exact Drawn0.refl _ | apply Drawn0.step)⟩
            · rw [if_neg c6] at H
              exact absurd H (by simp)
          · rw [if_neg c5] at H
            exact absurd H (by simp)
        · rw [if_neg c4] at H
          have c4b0 : decide (x5_1 < (l0.length : Int)) = false := decide_eq_false c4
          clear c4
          obtain rfl := Option.some.inj H
          go_wp2
          repeat (go_quiet (fail); try go_wp2)
          go_ret
          exact ⟨by first | rfl | (simp; done) | (simp [*]; done), by repeat (first | exact Drawn0.refl _ | apply Drawn0.step)⟩
  · rw [if_neg c3] at H
    have c3b0 : ((l0.length : Int) == (l1.length : Int)) = false := beq_eq_false_iff_ne.mpr c3
    have c3b1 : ((l0.length : Int) != (l1.length : Int)) = true := bne_iff_ne.mpr c3
    have c3b2 : (l0.length == l1.length) = false := by first | simpa using c3 | (simp at c3 ⊢; omega)
    obtain rfl := Option.some.inj H
    go_enter Tryd.func13, Tryd.ntmps13
    go_wp2
    repeat (go_quiet (fail); try go_wp2)
    go_ret
    exact ⟨by first | rfl | (simp; done) | (simp [*]; done), by repeat (first | exact Drawn0.refl _ | apply Drawn0.step)⟩

end Go.Proofs.YtanekljbehhjcaaDoor.PX

namespace Go.Proofs.YtanekljbehhjcaaDoor
open Go.RowKit Go.Proofs.YtanekljbehhjcaaDoorW.PrintWords Go.Proofs.YtanekljbehhjcaaDoorW.PrintMore Go.Proofs.YtanekljbehhjcaaDoor.PX

theorem numbers_l (l : List Int) (hl : l.length ≤ 100000000000) : ∀ (d i : Nat), i + d = l.length → Ev (fun k => frisketlaw27_numbers.l0 k l l (i : Int)) true := by
  intro d
  induction d with
  | zero =>
    intro i h
    refine Ev.step (fun k => by rw [frisketlaw27_numbers.l0]) ?_
    exact evNeg (by omega) (Ev.now _)
  | succ d ih =>
    intro i h
    refine Ev.step (fun k => by rw [frisketlaw27_numbers.l0]) ?_
    refine evPos (by omega) (evPos (by omega) (evPos (by omega) (evPos rfl ?_)))
    rw [show wrap64 ((i : Int) + 1) = ((i + 1 : Nat) : Int) from by rw [w64 (by omega) (by omega)]; rfl]
    exact ih (i + 1) (by omega)
theorem numbers_ev (l : List Int) (hl : l.length ≤ 100000000000) : Ev (fun k => frisketlaw27_numbers.f k l l) true := by
  unfold frisketlaw27_numbers.f
  exact evPos rfl (numbers_l l hl l.length 0 (by omega))
theorem spreadOf_len (s : List UInt8) : (spreadOf s).1.length ≤ 1000001 := by
  unfold spreadOf
  split
  · simp
  · split
    · rename_i h
      exact (Classical.choose_spec h).1.len
    · simp
theorem spread_f (s : ByteArray) (h : s.size ≤ 1000000000) : index_Spread.f s = some (spreadOf s.data.toList) := by
  unfold index_Spread.f; rw [if_pos h, goSpread_is]
theorem refSpread_ev' (s : ByteArray) (h : s.size ≤ 1000000) : Ev (fun k => frisketref27_Spread.f k s) (spreadOf s.data.toList) := by
  have := refSpread_ev s.data.toList (by rw [show s.data.toList.length = s.size from Array.length_toList]; exact h)
  rw [bar_of] at this; exact this

end Go.Proofs.YtanekljbehhjcaaDoor

namespace Go.Proofs.YtanekljbehhjcaaDoor.PX
open Go.RowKit Go.Proofs.YtanekljbehhjcaaDoorW.PrintWords Go.Proofs.YtanekljbehhjcaaDoorW.PrintLast Go.Proofs.YtanekljbehhjcaaDoorW.PrintMore
attribute [local go_sem] max2_int min2_int max_two min_two max_three min_three max_four min_four   -- for this text's walks alone
set_option linter.unusedVariables false
set_option linter.unusedSimpArgs false

/-! ### frisketlaw27_IndexPages: function 4 -/
mutual
def frisketlaw27_IndexPages.j0 : Nat → List Int → ByteArray → Bool → Option (Bool)
  | 0, _, _, _ => none
  | k + 1, x0, x1, x25 => if x25 = true then ((frisketlaw27_sane.f).bind fun t212 => (some t212)) else ((index_Pages.f x0).bind fun bt213 => ((frisketref27_Pages.f k x0).bind fun bt215 => (if bt213.1.toList = bt215.1.toList then (frisketlaw27_IndexPages.j1 k x0 x1 (bt213.2 != bt215.2)) else (frisketlaw27_IndexPages.j1 k x0 x1 true))))
def frisketlaw27_IndexPages.j1 : Nat → List Int → ByteArray → Bool → Option (Bool)
  | 0, _, _, _ => none
  | k + 1, x0, x1, x44 => if x44 = true then (some false) else ((index_Spread.f x1).bind fun bt217 => ((frisketref27_Spread.f k x1).bind fun bt221 => (if bt217.2 = bt221.2 then ((frisketlaw27_numbers.f k bt217.1 bt221.1).bind fun t225 => (frisketlaw27_IndexPages.j2 k x0 (!t225))) else (frisketlaw27_IndexPages.j2 k x0 true))))
def frisketlaw27_IndexPages.j2 : Nat → List Int → Bool → Option (Bool)
  | 0, _, _ => none
  | k + 1, x0, x63 => if x63 = true then (some false) else (frisketlaw27_IndexPages.l0 k x0 ([] : List Int) 0)
def frisketlaw27_IndexPages.l0 : Nat → List Int → List Int → Int → Option (Bool)
  | 0, _, _, _ => none
  | k + 1, x0, x11, x12 => if x12 < (x0.length : Int) then (if 0 ≤ x12 then (if x11.length < 17592186044416 then (frisketlaw27_IndexPages.l0 k x0 (x11 ++ [wrap64 (Int.tmod (IntKind.u64.wrap (rd x0 x12)) 40)]) (wrap64 (x12 + 1))) else (none)) else (none)) else ((index_Pages.f x11).bind fun bt230 => ((index_Spread.f bt230.1).bind fun bt232 => (if bt230.2 = 0 then (frisketlaw27_IndexPages.j4 k bt232.1 x11 (bt232.2 != 0)) else (frisketlaw27_IndexPages.j4 k bt232.1 x11 true))))
def frisketlaw27_IndexPages.j4 : Nat → List Int → List Int → Bool → Option (Bool)
  | 0, _, _, _ => none
  | k + 1, x9, x11, x95 => if x95 = true then (some false) else (frisketlaw27_IndexPages.l1 k x9 x11 0 0)
def frisketlaw27_IndexPages.l1 : Nat → List Int → List Int → Int → Int → Option (Bool)
  | 0, _, _, _, _ => none
  | k + 1, x9, x11, x14, x15 => if x15 < 40 then (frisketlaw27_IndexPages.l2 k x9 x11 x14 x15 false 0) else (if x14 = (x9.length : Int) then ((frisketlaw27_sane.f).bind fun t236 => (some t236)) else (some false))
def frisketlaw27_IndexPages.l2 : Nat → List Int → List Int → Int → Int → Bool → Int → Option (Bool)
  | 0, _, _, _, _, _, _ => none
  | k + 1, x9, x11, x14, x15, x16, x17 => if x17 < (x11.length : Int) then (if x16 = true then (frisketlaw27_IndexPages.l2 k x9 x11 x14 x15 true (wrap64 (x17 + 1))) else (if 0 ≤ x17 then (frisketlaw27_IndexPages.l2 k x9 x11 x14 x15 ((rd x11 x17) == x15) (wrap64 (x17 + 1))) else (none))) else (if x16 = true then (if x14 ≥ (x9.length : Int) then (some false) else (if 0 ≤ x14 then (if x14 < (x9.length : Int) then (if (rd x9 x14) = x15 then (frisketlaw27_IndexPages.l1 k x9 x11 (wrap64 (x14 + 1)) (wrap64 (x15 + 1))) else (some false)) else (none)) else (none))) else (frisketlaw27_IndexPages.l1 k x9 x11 x14 (wrap64 (x15 + 1))))
end
def frisketlaw27_IndexPages.f (k : Nat) (l0 : List Int) (a1 : ByteArray) : Option (Bool) := if (l0.length : Int) > 200 then (frisketlaw27_IndexPages.j0 k l0 a1 true) else (frisketlaw27_IndexPages.j0 k l0 a1 (decide ((a1.size : Int) > 300)))
theorem frisketlaw27_IndexPages.mono_l : ∀ k, (∀ y0 y1 y2, LeO (frisketlaw27_IndexPages.j0 k y0 y1 y2) (frisketlaw27_IndexPages.j0 (k + 1) y0 y1 y2)) ∧ (∀ y0 y1 y2, LeO (frisketlaw27_IndexPages.j1 k y0 y1 y2) (frisketlaw27_IndexPages.j1 (k + 1) y0 y1 y2)) ∧ (∀ y0 y1, LeO (frisketlaw27_IndexPages.j2 k y0 y1) (frisketlaw27_IndexPages.j2 (k + 1) y0 y1)) ∧ (∀ y0 y1 y2, LeO (frisketlaw27_IndexPages.l0 k y0 y1 y2) (frisketlaw27_IndexPages.l0 (k + 1) y0 y1 y2)) ∧ (∀ y0 y1 y2, LeO (frisketlaw27_IndexPages.j4 k y0 y1 y2) (frisketlaw27_IndexPages.j4 (k + 1) y0 y1 y2)) ∧ (∀ y0 y1 y2 y3, LeO (frisketlaw27_IndexPages.l1 k y0 y1 y2 y3) (frisketlaw27_IndexPages.l1 (k + 1) y0 y1 y2 y3)) ∧ (∀ y0 y1 y2 y3 y4 y5, LeO (frisketlaw27_IndexPages.l2 k y0 y1 y2 y3 y4 y5) (frisketlaw27_IndexPages.l2 (k + 1) y0 y1 y2 y3 y4 y5))
  | 0 => ⟨fun _ _ _ r h => by simp [frisketlaw27_IndexPages.j0] at h, fun _ _ _ r h => by simp [frisketlaw27_IndexPages.j1] at h, fun _ _ r h => by simp [frisketlaw27_IndexPages.j2] at h, fun _ _ _ r h => by simp [frisketlaw27_IndexPages.l0] at h, fun _ _ _ r h => by simp [frisketlaw27_IndexPages.j4] at h, fun _ _ _ _ r h => by simp [frisketlaw27_IndexPages.l1] at h, fun _ _ _ _ _ _ r h => by simp [frisketlaw27_IndexPages.l2] at h⟩
  | k + 1 => by
    obtain ⟨ih0, ih1, ih2, ih3, ih4, ih5, ih6⟩ := frisketlaw27_IndexPages.mono_l k
    refine ⟨?_, ?_, ?_, ?_, ?_, ?_, ?_⟩
    · intro y0 y1 y2
      unfold frisketlaw27_IndexPages.j0
      repeat' first
      | (with_reducible exact ih0 _ _ _)
      | (with_reducible exact ih1 _ _ _)
      | (with_reducible exact ih2 _ _)
      | (with_reducible exact ih3 _ _ _)
      | (with_reducible exact ih4 _ _ _)
      | (with_reducible exact ih5 _ _ _ _)
      | (with_reducible exact ih6 _ _ _ _ _ _)
      | (with_reducible exact frisketlaw27_numbers.mono _ _ _)
      | (with_reducible exact frisketref27_Pages.mono _ _)
      | (with_reducible exact frisketref27_Spread.mono _ _)
      | (with_reducible exact LeO.refl _)
      | (with_reducible exact LeO.none _)
      | (with_reducible refine LeO.ite ?_ ?_)
      | (with_reducible refine LeO.bind ?_ (fun _ => ?_))
      | exact ih0 _ _ _
      | exact ih1 _ _ _
      | exact ih2 _ _
      | exact ih3 _ _ _
      | exact ih4 _ _ _
      | exact ih5 _ _ _ _
      | exact ih6 _ _ _ _ _ _
      | exact frisketlaw27_numbers.mono _ _ _
      | exact frisketref27_Pages.mono _ _
      | exact frisketref27_Spread.mono _ _
      | exact LeO.none _
      | refine LeO.ite ?_ ?_
      | refine LeO.bind ?_ (fun _ => ?_)
    · intro y0 y1 y2
      unfold frisketlaw27_IndexPages.j1
      repeat' first
      | (with_reducible exact ih0 _ _ _)
      | (with_reducible exact ih1 _ _ _)
      | (with_reducible exact ih2 _ _)
      | (with_reducible exact ih3 _ _ _)
      | (with_reducible exact ih4 _ _ _)
      | (with_reducible exact ih5 _ _ _ _)
      | (with_reducible exact ih6 _ _ _ _ _ _)
      | (with_reducible exact frisketlaw27_numbers.mono _ _ _)
      | (with_reducible exact frisketref27_Pages.mono _ _)
      | (with_reducible exact frisketref27_Spread.mono _ _)
      | (with_reducible exact LeO.refl _)
      | (with_reducible exact LeO.none _)
      | (with_reducible refine LeO.ite ?_ ?_)
      | (with_reducible refine LeO.bind ?_ (fun _ => ?_))
      | exact ih0 _ _ _
      | exact ih1 _ _ _
      | exact ih2 _ _
      | exact ih3 _ _ _
      | exact ih4 _ _ _
      | exact ih5 _ _ _ _
      | exact ih6 _ _ _ _ _ _
      | exact frisketlaw27_numbers.mono _ _ _
      | exact frisketref27_Pages.mono _ _
      | exact frisketref27_Spread.mono _ _
      | exact LeO.none _
      | refine LeO.ite ?_ ?_
      | refine LeO.bind ?_ (fun _ => ?_)
    · intro y0 y1
      unfold frisketlaw27_IndexPages.j2
      repeat' first
      | (with_reducible exact ih0 _ _ _)
      | (with_reducible exact ih1 _ _ _)
      | (with_reducible exact ih2 _ _)
      | (with_reducible exact ih3 _ _ _)
      | (with_reducible exact ih4 _ _ _)
      | (with_reducible exact ih5 _ _ _ _)
      | (with_reducible exact ih6 _ _ _ _ _ _)
      | (with_reducible exact frisketlaw27_numbers.mono _ _ _)
      | (with_reducible exact frisketref27_Pages.mono _ _)
      | (with_reducible exact frisketref27_Spread.mono _ _)
      | (with_reducible exact LeO.refl _)
      | (with_reducible exact LeO.none _)
      | (with_reducible refine LeO.ite ?_ ?_)
      | (with_reducible refine LeO.bind ?_ (fun _ => ?_))
      | exact ih0 _ _ _
      | exact ih1 _ _ _
      | exact ih2 _ _
      | exact ih3 _ _ _
      | exact ih4 _ _ _
      | exact ih5 _ _ _ _
      | exact ih6 _ _ _ _ _ _
      | exact frisketlaw27_numbers.mono _ _ _
      | exact frisketref27_Pages.mono _ _
      | exact frisketref27_Spread.mono _ _
      | exact LeO.none _
      | refine LeO.ite ?_ ?_
      | refine LeO.bind ?_ (fun _ => ?_)
    · intro y0 y1 y2
      unfold frisketlaw27_IndexPages.l0
      repeat' first
      | (with_reducible exact ih0 _ _ _)
      | (with_reducible exact ih1 _ _ _)
      | (with_reducible exact ih2 _ _)
      | (with_reducible exact ih3 _ _ _)
      | (with_reducible exact ih4 _ _ _)
      | (with_reducible exact ih5 _ _ _ _)
      | (with_reducible exact ih6 _ _ _ _ _ _)
      | (with_reducible exact frisketlaw27_numbers.mono _ _ _)
      | (with_reducible exact frisketref27_Pages.mono _ _)
      | (with_reducible exact frisketref27_Spread.mono _ _)
      | (with_reducible exact LeO.refl _)
      | (with_reducible exact LeO.none _)
      | (with_reducible refine LeO.ite ?_ ?_)
      | (with_reducible refine LeO.bind ?_ (fun _ => ?_))
      | exact ih0 _ _ _
      | exact ih1 _ _ _
      | exact ih2 _ _
      | exact ih3 _ _ _
      | exact ih4 _ _ _
      | exact ih5 _ _ _ _
      | exact ih6 _ _ _ _ _ _
      | exact frisketlaw27_numbers.mono _ _ _
      | exact frisketref27_Pages.mono _ _
      | exact frisketref27_Spread.mono _ _
      | exact LeO.none _
      | refine LeO.ite ?_ ?_
      | refine LeO.bind ?_ (fun _ => ?_)
    · intro y0 y1 y2
      unfold frisketlaw27_IndexPages.j4
      repeat' first
      | (with_reducible exact ih0 _ _ _)
      | (with_reducible exact ih1 _ _ _)
      | (with_reducible exact ih2 _ _)
      | (with_reducible exact ih3 _ _ _)
      | (with_reducible exact ih4 _ _ _)
      | (with_reducible exact ih5 _ _ _ _)
      | (with_reducible exact ih6 _ _ _ _ _ _)
      | (with_reducible exact frisketlaw27_numbers.mono _ _ _)
      | (with_reducible exact frisketref27_Pages.mono _ _)
      | (with_reducible exact frisketref27_Spread.mono _ _)
      | (with_reducible exact LeO.refl _)
      | (with_reducible exact LeO.none _)
      | (with_reducible refine LeO.ite ?_ ?_)
      | (with_reducible refine LeO.bind ?_ (fun _ => ?_))
      | exact ih0 _ _ _
      | exact ih1 _ _ _
      | exact ih2 _ _
      | exact ih3 _ _ _
      | exact ih4 _ _ _
      | exact ih5 _ _ _ _
      | exact ih6 _ _ _ _ _ _
      | exact frisketlaw27_numbers.mono _ _ _
      | exact frisketref27_Pages.mono _ _
      | exact frisketref27_Spread.mono _ _
      | exact LeO.none _
      | refine LeO.ite ?_ ?_
      | refine LeO.bind ?_ (fun _ => ?_)
    · intro y0 y1 y2 y3
      unfold frisketlaw27_IndexPages.l1
      repeat' first
      | (with_reducible exact ih0 _ _ _)
      | (with_reducible exact ih1 _ _ _)
      | (with_reducible exact ih2 _ _)
      | (with_reducible exact ih3 _ _ _)
      | (with_reducible exact ih4 _ _ _)
      | (with_reducible exact ih5 _ _ _ _)
      | (with_reducible exact ih6 _ _ _ _ _ _)
      | (with_reducible exact frisketlaw27_numbers.mono _ _ _)
      | (with_reducible exact frisketref27_Pages.mono _ _)
      | (with_reducible exact frisketref27_Spread.mono _ _)
      | (with_reducible exact LeO.refl _)
      | (with_reducible exact LeO.none _)
      | (with_reducible refine LeO.ite ?_ ?_)
      | (with_reducible refine LeO.bind ?_ (fun _ => ?_))
      | exact ih0 _ _ _
      | exact ih1 _ _ _
      | exact ih2 _ _
      | exact ih3 _ _ _
      | exact ih4 _ _ _
      | exact ih5 _ _ _ _
      | exact ih6 _ _ _ _ _ _
      | exact frisketlaw27_numbers.mono _ _ _
      | exact frisketref27_Pages.mono _ _
      | exact frisketref27_Spread.mono _ _
      | exact LeO.none _
      | refine LeO.ite ?_ ?_
      | refine LeO.bind ?_ (fun _ => ?_)
    · intro y0 y1 y2 y3 y4 y5
      unfold frisketlaw27_IndexPages.l2
      repeat' first
      | (with_reducible exact ih0 _ _ _)
      | (with_reducible exact ih1 _ _ _)
      | (with_reducible exact ih2 _ _)
      | (with_reducible exact ih3 _ _ _)
      | (with_reducible exact ih4 _ _ _)
      | (with_reducible exact ih5 _ _ _ _)
      | (with_reducible exact ih6 _ _ _ _ _ _)
      | (with_reducible exact frisketlaw27_numbers.mono _ _ _)
      | (with_reducible exact frisketref27_Pages.mono _ _)
      | (with_reducible exact frisketref27_Spread.mono _ _)
      | (with_reducible exact LeO.refl _)
      | (with_reducible exact LeO.none _)
      | (with_reducible refine LeO.ite ?_ ?_)
      | (with_reducible refine LeO.bind ?_ (fun _ => ?_))
      | exact ih0 _ _ _
      | exact ih1 _ _ _
      | exact ih2 _ _
      | exact ih3 _ _ _
      | exact ih4 _ _ _
      | exact ih5 _ _ _ _
      | exact ih6 _ _ _ _ _ _
      | exact frisketlaw27_numbers.mono _ _ _
      | exact frisketref27_Pages.mono _ _
      | exact frisketref27_Spread.mono _ _
      | exact LeO.none _
      | refine LeO.ite ?_ ?_
      | refine LeO.bind ?_ (fun _ => ?_)
theorem frisketlaw27_IndexPages.mono : ∀ a0 a1 k, LeO (frisketlaw27_IndexPages.f k a0 a1) (frisketlaw27_IndexPages.f (k + 1) a0 a1) := by
  intro a0 a1 k
  obtain ⟨ih0, ih1, ih2, ih3, ih4, ih5, ih6⟩ := frisketlaw27_IndexPages.mono_l k
  unfold frisketlaw27_IndexPages.f
  repeat' first
      | (with_reducible exact ih0 _ _ _)
      | (with_reducible exact ih1 _ _ _)
      | (with_reducible exact ih2 _ _)
      | (with_reducible exact ih3 _ _ _)
      | (with_reducible exact ih4 _ _ _)
      | (with_reducible exact ih5 _ _ _ _)
      | (with_reducible exact ih6 _ _ _ _ _ _)
      | (with_reducible exact frisketlaw27_numbers.mono _ _ _)
      | (with_reducible exact frisketref27_Pages.mono _ _)
      | (with_reducible exact frisketref27_Spread.mono _ _)
      | (with_reducible exact LeO.refl _)
      | (with_reducible exact LeO.none _)
      | (with_reducible refine LeO.ite ?_ ?_)
      | (with_reducible refine LeO.bind ?_ (fun _ => ?_))
      | exact ih0 _ _ _
      | exact ih1 _ _ _
      | exact ih2 _ _
      | exact ih3 _ _ _
      | exact ih4 _ _ _
      | exact ih5 _ _ _ _
      | exact ih6 _ _ _ _ _ _
      | exact frisketlaw27_numbers.mono _ _ _
      | exact frisketref27_Pages.mono _ _
      | exact frisketref27_Spread.mono _ _
      | exact LeO.none _
      | refine LeO.ite ?_ ?_
      | refine LeO.bind ?_ (fun _ => ?_)
set_option maxHeartbeats 8000000 in
set_option maxRecDepth 100000 in
theorem frisketlaw27_IndexPages.calls (k : Nat) (A0 : Option Addr) (c0 : Nat) (l0 : List Int) (a1 : ByteArray) (r : Bool) (w : World) (hr0 : Kd.C (Kd.int .i64) w A0 l0.length l0) (hc0 : l0.length ≤ c0) (hG : GW w) (h : frisketlaw27_IndexPages.f k l0 a1 = some r) :
    Calls Tryd.prog 4 #[.slice A0 l0.length c0, .string a1] w fun e w' => e = .returned (.bool r) ∧ Below w.heap.size w w' := by
  have HG := Aside0.mk hG
  clear hG
  have HR0 := Aside0.mk hr0
  have HC0 := Aside0.mk hc0
  clear hr0 hc0
  have HB := Aside0.mk (Below.refl w.heap.size w)
  have H : (if (l0.length : Int) > 200 then (frisketlaw27_IndexPages.j0 k l0 a1 true) else (frisketlaw27_IndexPages.j0 k l0 a1 (decide ((a1.size : Int) > 300)))) = some r := h
  clear h
  have HC3 := Aside0.mk H
  clear H
  go_enter Tryd.func4, Tryd.ntmps4
  go_upto_region 1 with (fail)
  go_cut [25] (fun v25 wc => ∃ (kq : Nat) (x25_2 : Bool), v25 = .bool x25_2 ∧ Aside0 (frisketlaw27_IndexPages.j0 kq l0 a1 x25_2 = some r) ∧ Aside0 (kq ≤ k) ∧ Aside0 (Below w.heap.size w wc))
  case first =>
    have H := HC3.out
    clear HC3
    by_cases c4 : (l0.length : Int) > 200
    · rw [if_pos c4] at H
      have c4b0 : decide (200 < (l0.length : Int)) = true := decide_eq_true c4
      have c4b1 : decide (200 < l0.length) = true := decide_eq_true (by omega)
      clear c4
      (first | rw [c4b0] | (simp only [i64_w, i32_w]; rw [c4b0]) | skip)
      have H' := Aside0.mk H
      clear H
      go_wp2
      go_meet
      case rel => exact ⟨_, (true), (by first | rfl | (simp; done) | (simp [*]; done)), H', ⟨by first | omega | exact Nat.le_refl _⟩, ⟨by repeat (first | (with_reducible first | exact HB.out | apply below_alloc | apply pw_below_drewN | apply below_drew1) | exact HB.out)⟩⟩
    · rw [if_neg c4] at H
      have c4b0 : decide (200 < (l0.length : Int)) = false := decide_eq_false c4
      have c4b1 : decide (200 < l0.length) = false := decide_eq_false (by omega)
      clear c4
      (first | rw [c4b0] | (simp only [i64_w, i32_w]; rw [c4b0]) | skip)
      have H' := Aside0.mk H
      clear H
      go_wp2
      go_meet
      case rel => exact ⟨_, (decide ((a1.size : Int) > 300)), (by first | rfl | (simp; done) | (simp [*]; done)), H', ⟨by first | omega | exact Nat.le_refl _⟩, ⟨by repeat (first | (with_reducible first | exact HB.out | apply below_alloc | apply pw_below_drewN | apply below_drew1) | exact HB.out)⟩⟩
  case rest =>
    clear HC3
    try clear p2
    try clear c4
    try clear c4b0
    try clear c4b1
    obtain ⟨kq, x25_2, rfl, HA, HJ2, HB⟩ := hcut
    cases kq with
    | zero => exact absurd HA.out (by simp [frisketlaw27_IndexPages.j0])
    | succ kj2 =>
      have H := HA.out
      clear HA
      simp only [frisketlaw27_IndexPages.j0] at H
      by_cases c5 : x25_2 = true
      · subst c5
        have H1 : ((frisketlaw27_sane.f).bind fun t212 => (some t212)) = some r := by rw [if_pos rfl] at H; exact H
        clear H
        have H := H1
        clear H1
        replace H := Option.bind_eq_some_iff.mp H
        obtain ⟨t212, A60, H⟩ := H
        replace H : (some t212) = some r := H
        have A6 := Aside0.mk A60
        clear A60
        obtain rfl := Option.some.inj H
        go_wp2_with (first | ((with_reducible refine gate_callee (f := 6) rfl ?_); refine goesL_ (some 26) rfl rfl Tryd.func6 (by kernel_rfl) rfl #[] rfl (by (try simp only [List.map_toArray, List.map_cons, List.map_nil]); first | done | rfl | (simp only [List.length_drop, List.length_take]; rfl)) ?_; (with_reducible refine (frisketlaw27_sane.calls  t212 _ ?side1 A6.out).mono ?_); (case side1 => exact GW.under HG.out (by repeat (first | (with_reducible first | exact HB.out | apply below_alloc | apply pw_below_drewN | apply below_drew1) | exact HB.out))); rintro e w7 ⟨rfl, hb⟩; refine ⟨_, rfl, ?_⟩; have n0_ := Aside0.mk (below_step (by repeat (first | (with_reducible first | exact HB.out | apply below_alloc | apply pw_below_drewN | apply below_drew1) | exact HB.out)) hb); clear HB; have HB := n0_; clear n0_; (try clear hb); (try clear hb2); (try clear hk); (try clear hi)))
        go_ret
        exact ⟨by first | rfl | (simp [errW_none, errW_some] <;> rfl) | (simp [*, errW_none, errW_some] <;> rfl), by repeat (first | (with_reducible first | exact HB.out | apply below_alloc | apply pw_below_drewN | apply below_drew1) | exact HB.out)⟩
      · replace c5 := Bool.eq_false_iff.mpr c5
        subst c5
        have H1 : ((index_Pages.f l0).bind fun bt213 => ((frisketref27_Pages.f kj2 l0).bind fun bt215 => (if bt213.1.toList = bt215.1.toList then (frisketlaw27_IndexPages.j1 kj2 l0 a1 (bt213.2 != bt215.2)) else (frisketlaw27_IndexPages.j1 kj2 l0 a1 true)))) = some r := by rw [if_neg (show ¬ (false = true) by decide)] at H; exact H
        clear H
        have H := H1
        clear H1
        replace H := Option.bind_eq_some_iff.mp H
        obtain ⟨⟨t213, t214⟩, A80, H⟩ := H
        replace H : ((frisketref27_Pages.f kj2 l0).bind fun bt215 => (if t213.toList = bt215.1.toList then (frisketlaw27_IndexPages.j1 kj2 l0 a1 (t214 != bt215.2)) else (frisketlaw27_IndexPages.j1 kj2 l0 a1 true))) = some r := H
        have A8 := Aside0.mk A80
        clear A80
        replace H := Option.bind_eq_some_iff.mp H
        obtain ⟨⟨t215, t216⟩, A90, H⟩ := H
        replace H : (if t213.toList = t215.toList then (frisketlaw27_IndexPages.j1 kj2 l0 a1 (t214 != t216)) else (frisketlaw27_IndexPages.j1 kj2 l0 a1 true)) = some r := H
        have A9 := Aside0.mk A90
        clear A90
        have HC10 := Aside0.mk H
        clear H
        go_upto_region 5 with (first | ((with_reducible refine gate_callee (f := 9) rfl ?_); refine goesL_ (some 29) rfl rfl Tryd.func9 (by kernel_rfl) rfl #[.slice A0 l0.length c0] rfl (by (try simp only [List.map_toArray, List.map_cons, List.map_nil]); first | done | rfl | (simp only [List.length_drop, List.length_take]; rfl)) ?_; (with_reducible refine (index_Pages.calls _ _ l0 t213 t214 _ ?side1 ?side2 ?side3 A8.out).mono ?_); (case side1 => repeat (first | exact (Kd.C_below HR0.out HB.out) | (with_reducible refine Kd.C_alloc ?_ _) | (with_reducible refine Kd.C_drewN ?_ _) | (with_reducible refine Kd.C_drew ?_))); (case side2 => exact HC0.out); (case side3 => exact GW.under HG.out (by repeat (first | (with_reducible first | exact HB.out | apply below_alloc | apply pw_below_drewN | apply below_drew1) | exact HB.out))); rintro e w11 ⟨rfl, hb⟩; refine ⟨_, rfl, ?_⟩; have n0_ := Aside0.mk (below_step (by repeat (first | (with_reducible first | exact HB.out | apply below_alloc | apply pw_below_drewN | apply below_drew1) | exact HB.out)) hb); clear HB; have HB := n0_; clear n0_; (try clear hb); (try clear hb2); (try clear hk); (try clear hi)) | ((with_reducible refine gate_callee (f := 10) rfl ?_); refine goesL_ (some 34) rfl rfl Tryd.func10 (by kernel_rfl) rfl #[.slice A0 l0.length c0] rfl (by (try simp only [List.map_toArray, List.map_cons, List.map_nil]); first | done | rfl | (simp only [List.length_drop, List.length_take]; rfl)) ?_; (with_reducible refine (frisketref27_Pages.calls kj2 _ _ l0 t215 t216 _ ?side1 ?side2 A9.out).mono ?_); (case side1 => repeat (first | exact (Kd.C_below HR0.out HB.out) | (with_reducible refine Kd.C_alloc ?_ _) | (with_reducible refine Kd.C_drewN ?_ _) | (with_reducible refine Kd.C_drew ?_))); (case side2 => exact HC0.out); rintro e w12 ⟨rfl, hb⟩; refine ⟨_, rfl, ?_⟩; have n0_ := Aside0.mk (below_step (by repeat (first | (with_reducible first | exact HB.out | apply below_alloc | apply pw_below_drewN | apply below_drew1) | exact HB.out)) hb); clear HB; have HB := n0_; clear n0_; (try clear hb); (try clear hb2); (try clear hk); (try clear hi)))
        (try simp only [Act.put, List.setIfInBounds_toArray, List.set_cons_zero, List.set_cons_succ])
        go_cut [44] (fun v44 wc => ∃ (kq : Nat) (x44_9 : Bool), v44 = .bool x44_9 ∧ Aside0 (frisketlaw27_IndexPages.j1 kq l0 a1 x44_9 = some r) ∧ Aside0 (kq ≤ kj2) ∧ Aside0 (Below w.heap.size w wc))
        case first =>
          have H := HC10.out
          clear HC10
          by_cases c13 : t213.toList = t215.toList
          · rw [if_pos c13] at H
            have c13b0 : (t213.toList == t215.toList) = true := beq_iff_eq.mpr c13
            have c13b1 : (t213.toList != t215.toList) = false := bne_eq_false_iff_eq.mpr c13
            clear c13
            (first | rw [c13b0] | (simp only [i64_w, i32_w]; rw [c13b0]) | skip)
            have H' := Aside0.mk H
            clear H
            go_wp2
            go_meet
            case rel => exact ⟨_, ((t214 != t216)), (by first | rfl | (simp; done) | (simp [*]; done)), H', ⟨by have := HJ2.out; first | omega | exact Nat.le_refl _⟩, ⟨by repeat (first | (with_reducible first | exact HB.out | apply below_alloc | apply pw_below_drewN | apply below_drew1) | exact HB.out)⟩⟩
          · rw [if_neg c13] at H
            have c13b0 : (t213.toList == t215.toList) = false := beq_eq_false_iff_ne.mpr c13
            have c13b1 : (t213.toList != t215.toList) = true := bne_iff_ne.mpr c13
            (first | rw [c13b0] | (simp only [i64_w, i32_w]; rw [c13b0]) | skip)
            have H' := Aside0.mk H
            clear H
            go_wp2
            go_meet
            case rel => exact ⟨_, (true), (by first | rfl | (simp; done) | (simp [*]; done)), H', ⟨by have := HJ2.out; first | omega | exact Nat.le_refl _⟩, ⟨by repeat (first | (with_reducible first | exact HB.out | apply below_alloc | apply pw_below_drewN | apply below_drew1) | exact HB.out)⟩⟩
        case rest =>
          clear HC10
          try clear c1
          try clear p2
          try clear c4
          try clear c4b0
          try clear c4b1
          try clear c5
          try clear c6
          try clear c9
          try clear c10
          try clear c13
          try clear c13b0
          try clear c13b1
          try clear p2
          obtain ⟨kq, x44_9, rfl, HA, HJ9, HB⟩ := hcut
          cases kq with
          | zero => exact absurd HA.out (by simp [frisketlaw27_IndexPages.j1])
          | succ kj9 =>
            have H := HA.out
            clear HA
            simp only [frisketlaw27_IndexPages.j1] at H
            by_cases c14 : x44_9 = true
            · subst c14
              have H1 : (some false) = some r := by rw [if_pos rfl] at H; exact H
              clear H
              have H := H1
              clear H1
              obtain rfl := Option.some.inj H
              go_wp2
              go_ret
              exact ⟨by first | rfl | (simp [errW_none, errW_some] <;> rfl) | (simp [*, errW_none, errW_some] <;> rfl), by repeat (first | (with_reducible first | exact HB.out | apply below_alloc | apply pw_below_drewN | apply below_drew1) | exact HB.out)⟩
            · replace c14 := Bool.eq_false_iff.mpr c14
              subst c14
              have H1 : ((index_Spread.f a1).bind fun bt217 => ((frisketref27_Spread.f kj9 a1).bind fun bt221 => (if bt217.2 = bt221.2 then ((frisketlaw27_numbers.f kj9 bt217.1 bt221.1).bind fun t225 => (frisketlaw27_IndexPages.j2 kj9 l0 (!t225))) else (frisketlaw27_IndexPages.j2 kj9 l0 true)))) = some r := by rw [if_neg (show ¬ (false = true) by decide)] at H; exact H
              clear H
              have H := H1
              clear H1
              replace H := Option.bind_eq_some_iff.mp H
              obtain ⟨⟨t217, t218⟩, A150, H⟩ := H
              replace H : ((frisketref27_Spread.f kj9 a1).bind fun bt221 => (if t218 = bt221.2 then ((frisketlaw27_numbers.f kj9 t217 bt221.1).bind fun t225 => (frisketlaw27_IndexPages.j2 kj9 l0 (!t225))) else (frisketlaw27_IndexPages.j2 kj9 l0 true))) = some r := H
              have A15 := Aside0.mk A150
              clear A150
              replace H := Option.bind_eq_some_iff.mp H
              obtain ⟨⟨t221, t222⟩, A160, H⟩ := H
              replace H : (if t218 = t222 then ((frisketlaw27_numbers.f kj9 t217 t221).bind fun t225 => (frisketlaw27_IndexPages.j2 kj9 l0 (!t225))) else (frisketlaw27_IndexPages.j2 kj9 l0 true)) = some r := H
              have A16 := Aside0.mk A160
              clear A160
              have HC17 := Aside0.mk H
              clear H
              go_upto_region 9 with (first | ((with_reducible refine gate_callee (f := 11) rfl ?_); refine goesL_ (some 47) rfl rfl Tryd.func11 (by kernel_rfl) rfl #[.string a1] rfl (by (try simp only [List.map_toArray, List.map_cons, List.map_nil]); first | done | rfl | (simp only [List.length_drop, List.length_take]; rfl)) ?_; (with_reducible refine (index_Spread.calls a1 t217 t218 _ ?side1 A15.out).mono ?_); (case side1 => exact GW.under HG.out (by repeat (first | (with_reducible first | exact HB.out | apply below_alloc | apply pw_below_drewN | apply below_drew1) | exact HB.out))); rintro e w18 ⟨v219, rfl, ho0, hb⟩; refine ⟨_, rfl, ?_⟩; have n0_ := Aside0.mk (Kd.R_lower ho0 (below_size (by repeat (first | (with_reducible first | exact HB.out | apply below_alloc | apply pw_below_drewN | apply below_drew1) | exact HB.out)))); have n1_ := Aside0.mk (below_step (by repeat (first | (with_reducible first | exact HB.out | apply below_alloc | apply pw_below_drewN | apply below_drew1) | exact HB.out)) hb); clear HB; have HO220 := n0_; have HB := n1_; clear n0_ n1_; (try clear hb); (try clear hb2); (try clear hk); (try clear hi); (try clear ho0)) | ((with_reducible refine gate_callee (f := 12) rfl ?_); refine goesL_ (some 52) rfl rfl Tryd.func12 (by kernel_rfl) rfl #[.string a1] rfl (by (try simp only [List.map_toArray, List.map_cons, List.map_nil]); first | done | rfl | (simp only [List.length_drop, List.length_take]; rfl)) ?_; (with_reducible refine (frisketref27_Spread.calls kj9 a1 t221 t222 _ A16.out).mono ?_); rintro e w19 ⟨v223, rfl, ho0, hb⟩; refine ⟨_, rfl, ?_⟩; have n0_ := Aside0.mk (Kd.R_elder' (by (with_reducible repeat (first | apply Kd.R_alloc | apply Kd.R_drewN | apply Kd.R_drew)); exact HO220.out) (Kd.R_base ho0) hb); have n1_ := Aside0.mk (Kd.R_lower (Kd.R_new' ho0 (Kd.R_lt (by (with_reducible repeat (first | apply Kd.R_alloc | apply Kd.R_drewN | apply Kd.R_drew)); exact HO220.out))) (below_size (by repeat (first | (with_reducible first | exact HB.out | apply below_alloc | apply pw_below_drewN | apply below_drew1) | exact HB.out)))); have n2_ := Aside0.mk (below_step (by repeat (first | (with_reducible first | exact HB.out | apply below_alloc | apply pw_below_drewN | apply below_drew1) | exact HB.out)) hb); clear HO220; clear HB; have HO220 := n0_; have HO224 := n1_; have HB := n2_; clear n0_ n1_ n2_; (try clear hb); (try clear hb2); (try clear hk); (try clear hi); (try clear ho0)))
              (try simp only [Act.put, List.setIfInBounds_toArray, List.set_cons_zero, List.set_cons_succ])
              go_cut [63] (fun v63 wc => ∃ (kq : Nat) (x63_16 : Bool), v63 = .bool x63_16 ∧ Aside0 (frisketlaw27_IndexPages.j2 kq l0 x63_16 = some r) ∧ Aside0 (kq ≤ kj9) ∧ Aside0 (Below w.heap.size w wc))
              case first =>
                have H := HC17.out
                clear HC17
                by_cases c20 : t218 = t222
                · rw [if_pos c20] at H
                  have c20b0 : (t218 == t222) = true := beq_iff_eq.mpr c20
                  have c20b1 : (t218 != t222) = false := bne_eq_false_iff_eq.mpr c20
                  clear c20
                  (first | rw [c20b0] | (simp only [i64_w, i32_w]; rw [c20b0]) | skip)
                  replace H := Option.bind_eq_some_iff.mp H
                  obtain ⟨t225, A210, H⟩ := H
                  replace H : (frisketlaw27_IndexPages.j2 kj9 l0 (!t225)) = some r := H
                  have A21 := Aside0.mk A210
                  clear A210
                  have H' := Aside0.mk H
                  clear H
                  obtain ⟨Ao22, co22, eo22⟩ := Kd.R_slice HO220.out
                  subst eo22
                  obtain ⟨Ao23, co23, eo23⟩ := Kd.R_slice HO224.out
                  subst eo23
                  go_wp2_with (first | (go_at_call 13; (with_reducible refine (frisketlaw27_numbers.calls kj9 _ _ t217 _ _ t221 t225 _ ?side1 ?side2 ?side3 ?side4 A21.out).mono ?_); (case side1 => repeat (first | exact (Kd.R_reads' HO220.out).2.2 | (with_reducible refine Kd.C_alloc ?_ _) | (with_reducible refine Kd.C_drewN ?_ _) | (with_reducible refine Kd.C_drew ?_))); (case side2 => exact (Kd.R_reads' HO220.out).2.1); (case side3 => repeat (first | exact (Kd.R_reads' HO224.out).2.2 | (with_reducible refine Kd.C_alloc ?_ _) | (with_reducible refine Kd.C_drewN ?_ _) | (with_reducible refine Kd.C_drew ?_))); (case side4 => exact (Kd.R_reads' HO224.out).2.1); rintro e w' ⟨rfl, ⟨nd, rfl⟩⟩))
                  go_meet
                  case rel => exact ⟨_, (!t225), (by first | rfl | (simp; done) | (simp [*]; done)), H', ⟨by have := HJ2.out; have := HJ9.out; first | omega | exact Nat.le_refl _⟩, ⟨by repeat (first | (with_reducible first | exact HB.out | apply below_alloc | apply pw_below_drewN | apply below_drew1) | exact HB.out)⟩⟩
                · rw [if_neg c20] at H
                  have c20b0 : (t218 == t222) = false := beq_eq_false_iff_ne.mpr c20
                  have c20b1 : (t218 != t222) = true := bne_iff_ne.mpr c20
                  (first | rw [c20b0] | (simp only [i64_w, i32_w]; rw [c20b0]) | skip)
                  have H' := Aside0.mk H
                  clear H
                  go_wp2
                  go_meet
                  case rel => exact ⟨_, (true), (by first | rfl | (simp; done) | (simp [*]; done)), H', ⟨by have := HJ2.out; have := HJ9.out; first | omega | exact Nat.le_refl _⟩, ⟨by repeat (first | (with_reducible first | exact HB.out | apply below_alloc | apply pw_below_drewN | apply below_drew1) | exact HB.out)⟩⟩
              case rest =>
                clear HC17
                try clear c1
                try clear c2
                try clear p2
                try clear c4
                try clear c4b0
                try clear c4b1
                try clear c5
                try clear c6
                try clear c9
                try clear c10
                try clear c11
                try clear c12
                try clear c13
                try clear c13b0
                try clear c13b1
                try clear c14
                try clear c20
                try clear c20b0
                try clear c20b1
                try clear p2
                obtain ⟨kq, x63_16, rfl, HA, HJ16, HB⟩ := hcut
                cases kq with
                | zero => exact absurd HA.out (by simp [frisketlaw27_IndexPages.j2])
                | succ kj16 =>
                  have H := HA.out
                  clear HA
                  simp only [frisketlaw27_IndexPages.j2] at H
                  by_cases c24 : x63_16 = true
                  · subst c24
                    have H1 : (some false) = some r := by rw [if_pos rfl] at H; exact H
                    clear H
                    have H := H1
                    clear H1
                    obtain rfl := Option.some.inj H
                    go_wp2
                    go_ret
                    exact ⟨by first | rfl | (simp [errW_none, errW_some] <;> rfl) | (simp [*, errW_none, errW_some] <;> rfl), by repeat (first | (with_reducible first | exact HB.out | apply below_alloc | apply pw_below_drewN | apply below_drew1) | exact HB.out)⟩
                  · replace c24 := Bool.eq_false_iff.mpr c24
                    subst c24
                    have H1 : (frisketlaw27_IndexPages.l0 kj16 l0 ([] : List Int) 0) = some r := by rw [if_neg (show ¬ (false = true) by decide)] at H; exact H
                    clear H
                    have H := H1
                    clear H1
                    have H' := Aside0.mk H
                    clear H
                    go_wp2
                    go_loopg [11, 12] kj16 (fun kq v11 v12 w' => ∃ (x11_4 : List Int) (x12_4 : Int), v12 = .int .i64 x12_4 ∧ Aside0 (frisketlaw27_IndexPages.l0 kq l0 x11_4 x12_4 = some r) ∧ Aside0 (kq ≤ kj16) ∧ Aside0 (Kd.R (Kd.int .i64) 3 w' w.heap.size (fun _ => True) v11 x11_4) ∧ Aside0 (Below w.heap.size w w'))
                    case atStart => exact ⟨(([] : List Int)), (0), (by first | rfl | (simp; done) | (simp [*]; done)), H', ⟨Nat.le_refl _⟩, ⟨by first | exact Kd.R_nil _ _ _ _ _ | exact Kd.N_nil _ _ _ _ _ | exact Kd.V_nil _ _ _ _ _ | exact Kd.Q_nil _ _ _ _ _ | exact Kd.S_nil _ _ _ _ _⟩, ⟨by repeat (first | (with_reducible first | exact HB.out | apply below_alloc | apply pw_below_drewN | apply below_drew1) | exact HB.out)⟩⟩
                    case round =>
                      clear H'
                      try clear c1
                      try clear c2
                      try clear p2
                      try clear c4
                      try clear c4b0
                      try clear c4b1
                      try clear c5
                      try clear c6
                      try clear c9
                      try clear c10
                      try clear c11
                      try clear c12
                      try clear c13
                      try clear c13b0
                      try clear c13b1
                      try clear c14
                      try clear c20
                      try clear c20b0
                      try clear c20b1
                      try clear c24
                      try clear p2
                      obtain ⟨x11_4, x12_4, rfl, HA, HK4, HO_11, HB⟩ := hrel
                      cases gk with
                      | zero => exact absurd HA.out (by simp [frisketlaw27_IndexPages.l0])
                      | succ k4 =>
                        have H := HA.out
                        clear HA
                        simp only [frisketlaw27_IndexPages.l0] at H
                        by_cases c25 : x12_4 < (l0.length : Int)
                        · rw [if_pos c25] at H
                          have c25b0 : decide (x12_4 < (l0.length : Int)) = true := decide_eq_true c25
                          clear c25
                          by_cases c26 : 0 ≤ x12_4
                          · rw [if_pos c26] at H
                            have c26b0 : decide (0 ≤ x12_4) = true := decide_eq_true c26
                            clear c26
                            by_cases c27 : x11_4.length < 17592186044416
                            · rw [if_pos c27] at H
                              have LMc27 := Aside0.mk c27
                              clear c27
                              obtain ⟨y227, hy227⟩ : ∃ y_ : List Int, y_ = (x11_4 ++ [wrap64 (Int.tmod (IntKind.u64.wrap (rd l0 x12_4)) 40)]) := ⟨_, rfl⟩
                              replace H : (frisketlaw27_IndexPages.l0 k4 l0 y227 (wrap64 (x12_4 + 1))) = some r := by first | (rw [hy227]; with_reducible exact H) | (have H2_ := (Option.bind_some _ _).symm.trans H; rw [hy227]; with_reducible exact H2_) | (have H2_ := (Option.bind_some _ _).symm.trans H; with_reducible exact H2_) | with_reducible exact H | (rw [hy227]; exact H) | exact H
                              have Ny227 := Aside0.mk hy227
                              clear hy227
                              have H' := Aside0.mk H
                              clear H
                              have p226 : 0 ≤ (x12_4 : Int) := of_decide_eq_true (by first | (with_reducible assumption) | assumption)
                              have q226 : x12_4 < (l0.length : Int) := of_decide_eq_true (by first | (with_reducible assumption) | assumption)
                              obtain ⟨ad226, e226, hx226_0⟩ := Kd.at_int HR0.out x12_4 p226 q226
                              cases e226
                              replace hx226_0 := (HB.out.cell (World.block_lt_of_cell? w _ hx226_0)).trans hx226_0
                              replace p226 := eq_true p226
                              replace q226 := eq_true q226
                              go_wp2_with (first | ((with_reducible refine gate_builtin (b := .append) (xs := #[.tmp 70, .tmp 78]) rfl ?_); (try (refine gate_guard (by rfl) ?_; dsimp only)); at_builtin; refine Kd.R_append (Kd.int .i64) (w0 := w) w.heap.size rfl (.tmp 70) (.tmp 78) 23 3 (.int .i64 0) 8 rfl Tryd.underlying23 info3 rfl (by decide) (by omega) u11 x11_4 (wrap64 (Int.tmod (IntKind.u64.wrap (rd l0 x12_4)) 40)) [.int .i64 (wrap64 (Int.tmod (IntKind.u64.wrap (rd l0 x12_4)) 40))] (fun _ => True) (fun _ => False) rfl rfl ?aP (fun _ hk => hk.elim) ?aF ?aO ?aB ?aS ?aL ?_; (case aP => exact rfl); (case aB => exact (by repeat (first | (with_reducible first | exact HB.out | apply below_alloc | apply pw_below_drewN | apply below_drew1) | exact HB.out))); (case aF => exact (fun _ _ => trivial)); (case aO => exact (by (with_reducible repeat (first | apply Kd.R_alloc | apply Kd.R_drewN | apply Kd.R_drew)); exact HO_11.out)); (case aS => exact (below_size (by repeat (first | (with_reducible first | exact HB.out | apply below_alloc | apply pw_below_drewN | apply below_drew1) | exact HB.out)))); (case aL => have := LMc27.out; omega); intro v228 w28 ho hb hg hat; rw [← Ny227.out] at ho; have n0_ := Aside0.mk (hb); have n1_ := Aside0.mk (ho); clear HB; clear HO_11; have HB := n0_; have HO229 := n1_; clear n0_ n1_; clear ho hb hg hat))
                              go_roundg k4
                              case measure => have := HJ2.out; have := HJ9.out; have := HJ16.out; have := HK4.out; omega
                              case rel => exact ⟨(y227), (wrap64 (x12_4 + 1)), (by first | rfl | (simp; done) | (simp [*]; done)), H', ⟨by have := HJ2.out; have := HJ9.out; have := HJ16.out; have := HK4.out; omega⟩, ⟨by (with_reducible repeat (first | apply Kd.R_alloc | apply Kd.R_drewN | apply Kd.R_drew)); exact HO229.out⟩, ⟨by repeat (first | (with_reducible first | exact HB.out | apply below_alloc | apply pw_below_drewN | apply below_drew1) | exact HB.out)⟩⟩
                            · rw [if_neg c27] at H
                              exact absurd H (by simp)
                          · rw [if_neg c26] at H
                            exact absurd H (by simp)
                        · rw [if_neg c25] at H
                          have c25b0 : decide (x12_4 < (l0.length : Int)) = false := decide_eq_false c25
                          clear c25
                          replace H := Option.bind_eq_some_iff.mp H
                          obtain ⟨⟨t230, t231⟩, A290, H⟩ := H
                          replace H : ((index_Spread.f t230).bind fun bt232 => (if t231 = 0 then (frisketlaw27_IndexPages.j4 k4 bt232.1 x11_4 (bt232.2 != 0)) else (frisketlaw27_IndexPages.j4 k4 bt232.1 x11_4 true))) = some r := H
                          have A29 := Aside0.mk A290
                          clear A290
                          replace H := Option.bind_eq_some_iff.mp H
                          obtain ⟨⟨t232, t233⟩, A300, H⟩ := H
                          replace H : (if t231 = 0 then (frisketlaw27_IndexPages.j4 k4 t232 x11_4 (t233 != 0)) else (frisketlaw27_IndexPages.j4 k4 t232 x11_4 true)) = some r := H
                          have A30 := Aside0.mk A300
                          clear A300
                          have HC31 := Aside0.mk H
                          clear H
                          obtain ⟨Ao32, co32, eo32⟩ := Kd.R_slice HO_11.out
                          subst eo32
                          go_upto_region 18 with (first | ((with_reducible refine gate_callee (f := 9) rfl ?_); refine goesL_ (some 82) rfl rfl Tryd.func9 (by kernel_rfl) rfl #[.slice Ao32 x11_4.length co32] rfl (by (try simp only [List.map_toArray, List.map_cons, List.map_nil]); first | done | rfl | (simp only [List.length_drop, List.length_take]; rfl)) ?_; (with_reducible refine (index_Pages.calls _ _ x11_4 t230 t231 _ ?side1 ?side2 ?side3 A29.out).mono ?_); (case side1 => repeat (first | exact (Kd.R_reads' HO_11.out).2.2 | (with_reducible refine Kd.C_alloc ?_ _) | (with_reducible refine Kd.C_drewN ?_ _) | (with_reducible refine Kd.C_drew ?_))); (case side2 => exact (Kd.R_reads' HO_11.out).2.1); (case side3 => exact GW.under HG.out (by repeat (first | (with_reducible first | exact HB.out | apply below_alloc | apply pw_below_drewN | apply below_drew1) | exact HB.out))); rintro e w33 ⟨rfl, hb⟩; refine ⟨_, rfl, ?_⟩; have n0_ := Aside0.mk (Kd.R_below (by (with_reducible repeat (first | apply Kd.R_alloc | apply Kd.R_drewN | apply Kd.R_drew)); exact HO_11.out) hb); have n1_ := Aside0.mk (below_step (by repeat (first | (with_reducible first | exact HB.out | apply below_alloc | apply pw_below_drewN | apply below_drew1) | exact HB.out)) hb); clear HO_11; clear HB; have HO_11 := n0_; have HB := n1_; clear n0_ n1_; (try clear hb); (try clear hb2); (try clear hk); (try clear hi)) | ((with_reducible refine gate_callee (f := 11) rfl ?_); refine goesL_ (some 87) rfl rfl Tryd.func11 (by kernel_rfl) rfl #[.string t230] rfl (by (try simp only [List.map_toArray, List.map_cons, List.map_nil]); first | done | rfl | (simp only [List.length_drop, List.length_take]; rfl)) ?_; (with_reducible refine (index_Spread.calls t230 t232 t233 _ ?side1 A30.out).mono ?_); (case side1 => exact GW.under HG.out (by repeat (first | (with_reducible first | exact HB.out | apply below_alloc | apply pw_below_drewN | apply below_drew1) | exact HB.out))); rintro e w34 ⟨v234, rfl, ho0, hb⟩; refine ⟨_, rfl, ?_⟩; have n0_ := Aside0.mk (Kd.R_elder' (by (with_reducible repeat (first | apply Kd.R_alloc | apply Kd.R_drewN | apply Kd.R_drew)); exact HO_11.out) (Kd.R_base ho0) hb); have n1_ := Aside0.mk (Kd.R_lower (Kd.R_new' ho0 (Kd.R_lt (by (with_reducible repeat (first | apply Kd.R_alloc | apply Kd.R_drewN | apply Kd.R_drew)); exact HO_11.out))) (below_size (by repeat (first | (with_reducible first | exact HB.out | apply below_alloc | apply pw_below_drewN | apply below_drew1) | exact HB.out)))); have n2_ := Aside0.mk (below_step (by repeat (first | (with_reducible first | exact HB.out | apply below_alloc | apply pw_below_drewN | apply below_drew1) | exact HB.out)) hb); clear HO_11; clear HB; have HO_11 := n0_; have HO235 := n1_; have HB := n2_; clear n0_ n1_ n2_; (try clear hb); (try clear hb2); (try clear hk); (try clear hi); (try clear ho0)))
                          (try simp only [Act.put, List.setIfInBounds_toArray, List.set_cons_zero, List.set_cons_succ])
                          go_cut [95] (fun v95 wc => ∃ (kq : Nat) (x95_30 : Bool), v95 = .bool x95_30 ∧ Aside0 (frisketlaw27_IndexPages.j4 kq t232 x11_4 x95_30 = some r) ∧ Aside0 (kq ≤ k4) ∧ Aside0 (Kd.R (Kd.int .i64) 3 wc w.heap.size (fun k_ => some k_ ≠ ((.slice Ao32 x11_4.length co32) : Value).ownBlock) v234 t232) ∧ Aside0 (Kd.R (Kd.int .i64) 3 wc w.heap.size (fun k_ => some k_ ≠ (v234 : Value).ownBlock) (.slice Ao32 x11_4.length co32) x11_4) ∧ Aside0 (Below w.heap.size w wc))
                          case first =>
                            have H := HC31.out
                            clear HC31
                            by_cases c35 : t231 = 0
                            · rw [if_pos c35] at H
                              have c35b0 : (t231 == 0) = true := beq_iff_eq.mpr c35
                              have c35b1 : (t231 != 0) = false := bne_eq_false_iff_eq.mpr c35
                              clear c35
                              (first | rw [c35b0] | (simp only [i64_w, i32_w]; rw [c35b0]) | skip)
                              have H' := Aside0.mk H
                              clear H
                              go_wp2
                              go_meet
                              case rel => exact ⟨_, ((t233 != 0)), (by first | rfl | (simp; done) | (simp [*]; done)), H', ⟨by have := HJ2.out; have := HJ9.out; have := HJ16.out; have := HK4.out; first | omega | exact Nat.le_refl _⟩, ⟨by (with_reducible repeat (first | apply Kd.R_alloc | apply Kd.R_drewN | apply Kd.R_drew)); exact Kd.R_mono HO235.out (fun _ hk => hk.2)⟩, ⟨by (with_reducible repeat (first | apply Kd.R_alloc | apply Kd.R_drewN | apply Kd.R_drew)); exact Kd.R_mono HO_11.out (fun _ hk => hk.2)⟩, ⟨by repeat (first | (with_reducible first | exact HB.out | apply below_alloc | apply pw_below_drewN | apply below_drew1) | exact HB.out)⟩⟩
                            · rw [if_neg c35] at H
                              have c35b0 : (t231 == 0) = false := beq_eq_false_iff_ne.mpr c35
                              have c35b1 : (t231 != 0) = true := bne_iff_ne.mpr c35
                              (first | rw [c35b0] | (simp only [i64_w, i32_w]; rw [c35b0]) | skip)
                              have H' := Aside0.mk H
                              clear H
                              go_wp2
                              go_meet
                              case rel => exact ⟨_, (true), (by first | rfl | (simp; done) | (simp [*]; done)), H', ⟨by have := HJ2.out; have := HJ9.out; have := HJ16.out; have := HK4.out; first | omega | exact Nat.le_refl _⟩, ⟨by (with_reducible repeat (first | apply Kd.R_alloc | apply Kd.R_drewN | apply Kd.R_drew)); exact Kd.R_mono HO235.out (fun _ hk => hk.2)⟩, ⟨by (with_reducible repeat (first | apply Kd.R_alloc | apply Kd.R_drewN | apply Kd.R_drew)); exact Kd.R_mono HO_11.out (fun _ hk => hk.2)⟩, ⟨by repeat (first | (with_reducible first | exact HB.out | apply below_alloc | apply pw_below_drewN | apply below_drew1) | exact HB.out)⟩⟩
                          case rest =>
                            clear HC31
                            try clear c1
                            try clear c2
                            try clear p2
                            try clear q2
                            try clear hx2
                            try clear c3
                            try clear c4
                            try clear c4b0
                            try clear c4b1
                            try clear c5
                            try clear c6
                            try clear p6
                            try clear c9
                            try clear c10
                            try clear c11
                            try clear c12
                            try clear c13
                            try clear c13b0
                            try clear c13b1
                            try clear c14
                            try clear c20
                            try clear c20b0
                            try clear c20b1
                            try clear p22
                            try clear q22
                            try clear hx22
                            try clear c24
                            try clear c25
                            try clear c25b0
                            try clear c26
                            try clear c26b0
                            try clear c27
                            try clear c35
                            try clear c35b0
                            try clear c35b1
                            try clear hx226_0
                            try clear p2
                            try clear p226
                            try clear q226
                            obtain ⟨kq, x95_30, rfl, HA, HJ30, HO_9, HO_11, HB⟩ := hcut
                            cases kq with
                            | zero => exact absurd HA.out (by simp [frisketlaw27_IndexPages.j4])
                            | succ kj30 =>
                              have H := HA.out
                              clear HA
                              simp only [frisketlaw27_IndexPages.j4] at H
                              by_cases c36 : x95_30 = true
                              · subst c36
                                have H1 : (some false) = some r := by rw [if_pos rfl] at H; exact H
                                clear H
                                have H := H1
                                clear H1
                                obtain rfl := Option.some.inj H
                                go_wp2
                                go_ret
                                exact ⟨by first | rfl | (simp [errW_none, errW_some] <;> rfl) | (simp [*, errW_none, errW_some] <;> rfl), by repeat (first | (with_reducible first | exact HB.out | apply below_alloc | apply pw_below_drewN | apply below_drew1) | exact HB.out)⟩
                              · replace c36 := Bool.eq_false_iff.mpr c36
                                subst c36
                                have H1 : (frisketlaw27_IndexPages.l1 kj30 t232 x11_4 0 0) = some r := by rw [if_neg (show ¬ (false = true) by decide)] at H; exact H
                                clear H
                                have H := H1
                                clear H1
                                have H' := Aside0.mk H
                                clear H
                                go_wp2
                                go_loopg [14, 15] kj30 (fun kq v14 v15 w' => ∃ (x14_6 : Int) (x15_6 : Int), v14 = .int .i64 x14_6 ∧ v15 = .int .i64 x15_6 ∧ Aside0 (frisketlaw27_IndexPages.l1 kq t232 x11_4 x14_6 x15_6 = some r) ∧ Aside0 (kq ≤ kj30) ∧ Aside0 (Kd.R (Kd.int .i64) 3 w' w.heap.size (fun k_ => some k_ ≠ ((.slice Ao32 x11_4.length co32) : Value).ownBlock) v234 t232) ∧ Aside0 (Kd.R (Kd.int .i64) 3 w' w.heap.size (fun k_ => some k_ ≠ (v234 : Value).ownBlock) (.slice Ao32 x11_4.length co32) x11_4) ∧ Aside0 (Below w.heap.size w w'))
                                case atStart => exact ⟨(0), (0), (by first | rfl | (simp; done) | (simp [*]; done)), (by first | rfl | (simp; done) | (simp [*]; done)), H', ⟨Nat.le_refl _⟩, ⟨by (with_reducible repeat (first | apply Kd.R_alloc | apply Kd.R_drewN | apply Kd.R_drew)); exact HO_9.out⟩, ⟨by (with_reducible repeat (first | apply Kd.R_alloc | apply Kd.R_drewN | apply Kd.R_drew)); exact HO_11.out⟩, ⟨by repeat (first | (with_reducible first | exact HB.out | apply below_alloc | apply pw_below_drewN | apply below_drew1) | exact HB.out)⟩⟩
                                case round =>
                                  clear H'
                                  try clear c1
                                  try clear c2
                                  try clear p2
                                  try clear q2
                                  try clear hx2
                                  try clear c3
                                  try clear c4
                                  try clear c4b0
                                  try clear c4b1
                                  try clear c5
                                  try clear c6
                                  try clear p6
                                  try clear c9
                                  try clear c10
                                  try clear c11
                                  try clear c12
                                  try clear c13
                                  try clear c13b0
                                  try clear c13b1
                                  try clear c14
                                  try clear c20
                                  try clear c20b0
                                  try clear c20b1
                                  try clear p22
                                  try clear q22
                                  try clear hx22
                                  try clear c24
                                  try clear c25
                                  try clear c25b0
                                  try clear c26
                                  try clear c26b0
                                  try clear c27
                                  try clear c35
                                  try clear c35b0
                                  try clear c35b1
                                  try clear c36
                                  try clear hx226_0
                                  try clear p2
                                  try clear p22
                                  try clear p226
                                  try clear p6
                                  try clear q2
                                  try clear q22
                                  try clear q226
                                  obtain ⟨x14_6, x15_6, rfl, rfl, HA, HK6, HO_9, HO_11, HB⟩ := hrel
                                  cases gk with
                                  | zero => exact absurd HA.out (by simp [frisketlaw27_IndexPages.l1])
                                  | succ k6 =>
                                    have H := HA.out
                                    clear HA
                                    simp only [frisketlaw27_IndexPages.l1] at H
                                    by_cases c37 : x15_6 < 40
                                    · rw [if_pos c37] at H
                                      have c37b0 : decide (x15_6 < 40) = true := decide_eq_true c37
                                      clear c37
                                      have H' := Aside0.mk H
                                      clear H
                                      go_wp2
                                      go_loopg [16, 17] k6 (fun kq v16 v17 w' => ∃ (x16_7 : Bool) (x17_7 : Int), v16 = .bool x16_7 ∧ v17 = .int .i64 x17_7 ∧ Aside0 (frisketlaw27_IndexPages.l2 kq t232 x11_4 x14_6 x15_6 x16_7 x17_7 = some r) ∧ Aside0 (kq ≤ k6) ∧ Aside0 (Kd.R (Kd.int .i64) 3 w' w.heap.size (fun k_ => some k_ ≠ ((.slice Ao32 x11_4.length co32) : Value).ownBlock) v234 t232) ∧ Aside0 (Kd.R (Kd.int .i64) 3 w' w.heap.size (fun k_ => some k_ ≠ (v234 : Value).ownBlock) (.slice Ao32 x11_4.length co32) x11_4) ∧ Aside0 (Below w.heap.size w w'))
                                      case atStart => exact ⟨(false), (0), (by first | rfl | (simp; done) | (simp [*]; done)), (by first | rfl | (simp; done) | (simp [*]; done)), H', ⟨Nat.le_refl _⟩, ⟨by (with_reducible repeat (first | apply Kd.R_alloc | apply Kd.R_drewN | apply Kd.R_drew)); exact HO_9.out⟩, ⟨by (with_reducible repeat (first | apply Kd.R_alloc | apply Kd.R_drewN | apply Kd.R_drew)); exact HO_11.out⟩, ⟨by repeat (first | (with_reducible first | exact HB.out | apply below_alloc | apply pw_below_drewN | apply below_drew1) | exact HB.out)⟩⟩
                                      case round =>
                                        clear H'
                                        try clear c1
                                        try clear c2
                                        try clear p2
                                        try clear q2
                                        try clear hx2
                                        try clear c3
                                        try clear c4
                                        try clear c4b0
                                        try clear c4b1
                                        try clear c5
                                        try clear c6
                                        try clear p6
                                        try clear c9
                                        try clear c10
                                        try clear c11
                                        try clear c12
                                        try clear c13
                                        try clear c13b0
                                        try clear c13b1
                                        try clear c14
                                        try clear c20
                                        try clear c20b0
                                        try clear c20b1
                                        try clear p22
                                        try clear q22
                                        try clear hx22
                                        try clear c24
                                        try clear c25
                                        try clear c25b0
                                        try clear c26
                                        try clear c26b0
                                        try clear c27
                                        try clear c35
                                        try clear c35b0
                                        try clear c35b1
                                        try clear c36
                                        try clear c37
                                        try clear c37b0
                                        try clear hx226_0
                                        try clear p2
                                        try clear p22
                                        try clear p226
                                        try clear p6
                                        try clear q2
                                        try clear q22
                                        try clear q226
                                        obtain ⟨x16_7, x17_7, rfl, rfl, HA, HK7, HO_9, HO_11, HB⟩ := hrel
                                        cases gk with
                                        | zero => exact absurd HA.out (by simp [frisketlaw27_IndexPages.l2])
                                        | succ k7 =>
                                          have H := HA.out
                                          clear HA
                                          simp only [frisketlaw27_IndexPages.l2] at H
                                          by_cases c38 : x17_7 < (x11_4.length : Int)
                                          · rw [if_pos c38] at H
                                            have c38b0 : decide (x17_7 < (x11_4.length : Int)) = true := decide_eq_true c38
                                            clear c38
                                            by_cases c39 : x16_7 = true
                                            · subst c39
                                              have H1 : (frisketlaw27_IndexPages.l2 k7 t232 x11_4 x14_6 x15_6 true (wrap64 (x17_7 + 1))) = some r := by rw [if_pos rfl] at H; exact H
                                              clear H
                                              have H := H1
                                              clear H1
                                              have H' := Aside0.mk H
                                              clear H
                                              go_wp2
                                              go_roundg k7
                                              case measure => have := HJ2.out; have := HJ9.out; have := HJ16.out; have := HK4.out; have := HJ30.out; have := HK6.out; have := HK7.out; omega
                                              case rel => exact ⟨(true), (wrap64 (x17_7 + 1)), (by first | rfl | (simp; done) | (simp [*]; done)), (by first | rfl | (simp; done) | (simp [*]; done)), H', ⟨by have := HJ2.out; have := HJ9.out; have := HJ16.out; have := HK4.out; have := HJ30.out; have := HK6.out; have := HK7.out; omega⟩, ⟨by (with_reducible repeat (first | apply Kd.R_alloc | apply Kd.R_drewN | apply Kd.R_drew)); exact HO_9.out⟩, ⟨by (with_reducible repeat (first | apply Kd.R_alloc | apply Kd.R_drewN | apply Kd.R_drew)); exact HO_11.out⟩, ⟨by repeat (first | (with_reducible first | exact HB.out | apply below_alloc | apply pw_below_drewN | apply below_drew1) | exact HB.out)⟩⟩
                                            · replace c39 := Bool.eq_false_iff.mpr c39
                                              subst c39
                                              have H1 : (if 0 ≤ x17_7 then (frisketlaw27_IndexPages.l2 k7 t232 x11_4 x14_6 x15_6 ((rd x11_4 x17_7) == x15_6) (wrap64 (x17_7 + 1))) else (none)) = some r := by rw [if_neg (show ¬ (false = true) by decide)] at H; exact H
                                              clear H
                                              have H := H1
                                              clear H1
                                              by_cases c40 : 0 ≤ x17_7
                                              · rw [if_pos c40] at H
                                                have c40b0 : decide (0 ≤ x17_7) = true := decide_eq_true c40
                                                clear c40
                                                have H' := Aside0.mk H
                                                clear H
                                                have p237 : 0 ≤ (x17_7 : Int) := of_decide_eq_true (by first | (with_reducible assumption) | assumption)
                                                have q237 : x17_7 < (x11_4.length : Int) := of_decide_eq_true (by first | (with_reducible assumption) | assumption)
                                                obtain ⟨ad237, e237, hx237_0⟩ := Kd.at_int (Kd.R_reads' HO_11.out).2.2 x17_7 p237 q237
                                                cases e237
                                                replace p237 := eq_true p237
                                                replace q237 := eq_true q237
                                                go_wp2
                                                go_roundg k7
                                                case measure => have := HJ2.out; have := HJ9.out; have := HJ16.out; have := HK4.out; have := HJ30.out; have := HK6.out; have := HK7.out; omega
                                                case rel => exact ⟨(((rd x11_4 x17_7) == x15_6)), (wrap64 (x17_7 + 1)), (by first | rfl | (simp; done) | (simp [*]; done)), (by first | rfl | (simp; done) | (simp [*]; done)), H', ⟨by have := HJ2.out; have := HJ9.out; have := HJ16.out; have := HK4.out; have := HJ30.out; have := HK6.out; have := HK7.out; omega⟩, ⟨by (with_reducible repeat (first | apply Kd.R_alloc | apply Kd.R_drewN | apply Kd.R_drew)); exact HO_9.out⟩, ⟨by (with_reducible repeat (first | apply Kd.R_alloc | apply Kd.R_drewN | apply Kd.R_drew)); exact HO_11.out⟩, ⟨by repeat (first | (with_reducible first | exact HB.out | apply below_alloc | apply pw_below_drewN | apply below_drew1) | exact HB.out)⟩⟩
                                              · rw [if_neg c40] at H
                                                exact absurd H (by simp)
                                          · rw [if_neg c38] at H
                                            have c38b0 : decide (x17_7 < (x11_4.length : Int)) = false := decide_eq_false c38
                                            clear c38
                                            by_cases c41 : x16_7 = true
                                            · subst c41
                                              have H1 : (if x14_6 ≥ (t232.length : Int) then (some false) else (if 0 ≤ x14_6 then (if x14_6 < (t232.length : Int) then (if (rd t232 x14_6) = x15_6 then (frisketlaw27_IndexPages.l1 k7 t232 x11_4 (wrap64 (x14_6 + 1)) (wrap64 (x15_6 + 1))) else (some false)) else (none)) else (none))) = some r := by rw [if_pos rfl] at H; exact H
                                              clear H
                                              have H := H1
                                              clear H1
                                              by_cases c42 : x14_6 ≥ (t232.length : Int)
                                              · rw [if_pos c42] at H
                                                have c42b0 : decide ((t232.length : Int) ≤ x14_6) = true := decide_eq_true c42
                                                clear c42
                                                obtain rfl := Option.some.inj H
                                                obtain ⟨Ao43, co43, eo43⟩ := Kd.R_slice HO_9.out
                                                subst eo43
                                                go_wp2
                                                go_ret
                                                exact ⟨by first | rfl | (simp [errW_none, errW_some] <;> rfl) | (simp [*, errW_none, errW_some] <;> rfl), by repeat (first | (with_reducible first | exact HB.out | apply below_alloc | apply pw_below_drewN | apply below_drew1) | exact HB.out)⟩
                                              · rw [if_neg c42] at H
                                                have c42b0 : decide ((t232.length : Int) ≤ x14_6) = false := decide_eq_false c42
                                                clear c42
                                                by_cases c44 : 0 ≤ x14_6
                                                · rw [if_pos c44] at H
                                                  have c44b0 : decide (0 ≤ x14_6) = true := decide_eq_true c44
                                                  clear c44
                                                  by_cases c45 : x14_6 < (t232.length : Int)
                                                  · rw [if_pos c45] at H
                                                    have c45b0 : decide (x14_6 < (t232.length : Int)) = true := decide_eq_true c45
                                                    clear c45
                                                    by_cases c46 : (rd t232 x14_6) = x15_6
                                                    · rw [if_pos c46] at H
                                                      have c46b0 : ((rd t232 x14_6) == x15_6) = true := beq_iff_eq.mpr c46
                                                      have c46b1 : ((rd t232 x14_6) != x15_6) = false := bne_eq_false_iff_eq.mpr c46
                                                      clear c46
                                                      have H' := Aside0.mk H
                                                      clear H
                                                      obtain ⟨Ao47, co47, eo47⟩ := Kd.R_slice HO_9.out
                                                      subst eo47
                                                      have p238 : 0 ≤ (x14_6 : Int) := of_decide_eq_true (by first | (with_reducible assumption) | assumption)
                                                      have q238 : x14_6 < (t232.length : Int) := of_decide_eq_true (by first | (with_reducible assumption) | assumption)
                                                      obtain ⟨ad238, e238, hx238_0⟩ := Kd.at_int (Kd.R_reads' HO_9.out).2.2 x14_6 p238 q238
                                                      cases e238
                                                      replace p238 := eq_true p238
                                                      replace q238 := eq_true q238
                                                      go_wp2
                                                      go_roundg k7
                                                      case measure => have := HJ2.out; have := HJ9.out; have := HJ16.out; have := HK4.out; have := HJ30.out; have := HK6.out; have := HK7.out; omega
                                                      case rel => exact ⟨(wrap64 (x14_6 + 1)), (wrap64 (x15_6 + 1)), (by first | rfl | (simp; done) | (simp [*]; done)), (by first | rfl | (simp; done) | (simp [*]; done)), H', ⟨by have := HJ2.out; have := HJ9.out; have := HJ16.out; have := HK4.out; have := HJ30.out; have := HK6.out; have := HK7.out; omega⟩, ⟨by (with_reducible repeat (first | apply Kd.R_alloc | apply Kd.R_drewN | apply Kd.R_drew)); exact HO_9.out⟩, ⟨by (with_reducible repeat (first | apply Kd.R_alloc | apply Kd.R_drewN | apply Kd.R_drew)); exact HO_11.out⟩, ⟨by repeat (first | (with_reducible first | exact HB.out | apply below_alloc | apply pw_below_drewN | apply below_drew1) | exact HB.out)⟩⟩
                                                    · rw [if_neg c46] at H
                                                      have c46b0 : ((rd t232 x14_6) == x15_6) = false := beq_eq_false_iff_ne.mpr c46
                                                      have c46b1 : ((rd t232 x14_6) != x15_6) = true := bne_iff_ne.mpr c46
                                                      obtain rfl := Option.some.inj H
                                                      obtain ⟨Ao48, co48, eo48⟩ := Kd.R_slice HO_9.out
                                                      subst eo48
                                                      have p238 : 0 ≤ (x14_6 : Int) := of_decide_eq_true (by first | (with_reducible assumption) | assumption)
                                                      have q238 : x14_6 < (t232.length : Int) := of_decide_eq_true (by first | (with_reducible assumption) | assumption)
                                                      obtain ⟨ad238, e238, hx238_0⟩ := Kd.at_int (Kd.R_reads' HO_9.out).2.2 x14_6 p238 q238
                                                      cases e238
                                                      replace p238 := eq_true p238
                                                      replace q238 := eq_true q238
                                                      go_wp2
                                                      go_ret
                                                      exact ⟨by first | rfl | (simp [errW_none, errW_some] <;> rfl) | (simp [*, errW_none, errW_some] <;> rfl), by repeat (first | (with_reducible first | exact HB.out | apply below_alloc | apply pw_below_drewN | apply below_drew1) | exact HB.out)⟩
                                                  · rw [if_neg c45] at H
                                                    exact absurd H (by simp)
                                                · rw [if_neg c44] at H
                                                  exact absurd H (by simp)
                                            · replace c41 := Bool.eq_false_iff.mpr c41
                                              subst c41
                                              have H1 : (frisketlaw27_IndexPages.l1 k7 t232 x11_4 x14_6 (wrap64 (x15_6 + 1))) = some r := by rw [if_neg (show ¬ (false = true) by decide)] at H; exact H
                                              clear H
                                              have H := H1
                                              clear H1
                                              have H' := Aside0.mk H
                                              clear H
                                              go_wp2
                                              go_roundg k7
                                              case measure => have := HJ2.out; have := HJ9.out; have := HJ16.out; have := HK4.out; have := HJ30.out; have := HK6.out; have := HK7.out; omega
                                              case rel => exact ⟨(x14_6), (wrap64 (x15_6 + 1)), (by first | rfl | (simp; done) | (simp [*]; done)), (by first | rfl | (simp; done) | (simp [*]; done)), H', ⟨by have := HJ2.out; have := HJ9.out; have := HJ16.out; have := HK4.out; have := HJ30.out; have := HK6.out; have := HK7.out; omega⟩, ⟨by (with_reducible repeat (first | apply Kd.R_alloc | apply Kd.R_drewN | apply Kd.R_drew)); exact HO_9.out⟩, ⟨by (with_reducible repeat (first | apply Kd.R_alloc | apply Kd.R_drewN | apply Kd.R_drew)); exact HO_11.out⟩, ⟨by repeat (first | (with_reducible first | exact HB.out | apply below_alloc | apply pw_below_drewN | apply below_drew1) | exact HB.out)⟩⟩
                                    · rw [if_neg c37] at H
                                      have c37b0 : decide (x15_6 < 40) = false := decide_eq_false c37
                                      clear c37
                                      by_cases c49 : x14_6 = (t232.length : Int)
                                      · rw [if_pos c49] at H
                                        have c49b0 : (x14_6 == (t232.length : Int)) = true := beq_iff_eq.mpr c49
                                        have c49b1 : (x14_6 != (t232.length : Int)) = false := bne_eq_false_iff_eq.mpr c49
                                        clear c49
                                        replace H := Option.bind_eq_some_iff.mp H
                                        obtain ⟨t236, A500, H⟩ := H
                                        replace H : (some t236) = some r := H
                                        have A50 := Aside0.mk A500
                                        clear A500
                                        obtain rfl := Option.some.inj H
                                        obtain ⟨Ao51, co51, eo51⟩ := Kd.R_slice HO_9.out
                                        subst eo51
                                        go_wp2_with (first | (go_at_call 6; (with_reducible refine (frisketlaw27_sane.calls  t236 _ ?side1 A50.out).mono ?_); (case side1 => exact GW.under HG.out (by repeat (first | (with_reducible first | exact HB.out | apply below_alloc | apply pw_below_drewN | apply below_drew1) | exact HB.out))); rintro e w52 ⟨rfl, hb⟩; have n0_ := Aside0.mk (Kd.R_below (by (with_reducible repeat (first | apply Kd.R_alloc | apply Kd.R_drewN | apply Kd.R_drew)); exact HO_9.out) hb); have n1_ := Aside0.mk (Kd.R_below (by (with_reducible repeat (first | apply Kd.R_alloc | apply Kd.R_drewN | apply Kd.R_drew)); exact HO_11.out) hb); have n2_ := Aside0.mk (below_step (by repeat (first | (with_reducible first | exact HB.out | apply below_alloc | apply pw_below_drewN | apply below_drew1) | exact HB.out)) hb); clear HO_9; clear HO_11; clear HB; have HO_9 := n0_; have HO_11 := n1_; have HB := n2_; clear n0_ n1_ n2_; (try clear hb); (try clear hb2); (try clear hk); (try clear hi)))
                                        go_ret
                                        exact ⟨by first | rfl | (simp [errW_none, errW_some] <;> rfl) | (simp [*, errW_none, errW_some] <;> rfl), by repeat (first | (with_reducible first | exact HB.out | apply below_alloc | apply pw_below_drewN | apply below_drew1) | exact HB.out)⟩
                                      · rw [if_neg c49] at H
                                        have c49b0 : (x14_6 == (t232.length : Int)) = false := beq_eq_false_iff_ne.mpr c49
                                        have c49b1 : (x14_6 != (t232.length : Int)) = true := bne_iff_ne.mpr c49
                                        obtain rfl := Option.some.inj H
                                        obtain ⟨Ao53, co53, eo53⟩ := Kd.R_slice HO_9.out
                                        subst eo53
                                        go_wp2
                                        go_ret
                                        exact ⟨by first | rfl | (simp [errW_none, errW_some] <;> rfl) | (simp [*, errW_none, errW_some] <;> rfl), by repeat (first | (with_reducible first | exact HB.out | apply below_alloc | apply pw_below_drewN | apply below_drew1) | exact HB.out)⟩

end Go.Proofs.YtanekljbehhjcaaDoor.PX

namespace Go.Proofs.YtanekljbehhjcaaDoor
open Go.RowKit Go.Proofs.YtanekljbehhjcaaDoorW.PrintWords Go.Proofs.YtanekljbehhjcaaDoorW.PrintMore Go.Proofs.YtanekljbehhjcaaDoor.PX

theorem refPart_nil : refPart [] = none := by
  have e : Lib.itoa 0 = [48] := by
    unfold Lib.itoa; rw [if_neg (by omega)]
    show Lib.decDigits 0 = [48]
    rw [Lib.decDigits, dif_pos (by decide)]; rfl
  have h : (wholeOf []).2 = false := by
    unfold wholeOf; rw [if_neg (by decide)]
    show (Lib.itoa 0 == ([] : List UInt8)) = false
    rw [e]; rfl
  unfold refPart; simp [segs, h]

/-! ### the second half of IndexPages -/
/-- How many of a list are less than n. -/
def cnt (L : List Int) (n : Int) : Nat := (L.filter fun x => decide (x < n)).length
theorem cnt_none {L : List Int} {n : Int} (h : ∀ x ∈ L, n ≤ x) : cnt L n = 0 := by
  unfold cnt
  rw [List.filter_eq_nil_iff.2 (fun x hx => by have := h x hx; simp; omega)]; rfl
theorem cnt_all {L : List Int} {n : Int} (h : ∀ x ∈ L, x < n) : cnt L n = L.length := by
  unfold cnt
  rw [List.filter_eq_self.2 (fun x hx => by have := h x hx; simp; omega)]
theorem cnt_out {L : List Int} {n : Int} (h : n ∉ L) : cnt L (n + 1) = cnt L n := by
  unfold cnt
  congr 1
  apply List.filter_congr
  intro x hx
  have : x ≠ n := fun e => h (e ▸ hx)
  simp; omega
theorem cnt_in : ∀ {L : List Int}, L.Pairwise (· < ·) → ∀ {n : Int}, n ∈ L → cnt L n < L.length ∧ L.getD (cnt L n) 0 = n ∧ cnt L (n + 1) = cnt L n + 1
  | [], _, n, h => by cases h
  | a :: r, hp, n, h => by
    obtain ⟨h1, h2⟩ := List.pairwise_cons.1 hp
    rcases List.mem_cons.1 h with rfl | h
    · have e1 : cnt (n :: r) n = 0 := cnt_none (fun x hx => by rcases List.mem_cons.1 hx with rfl | hx; exact Int.le_refl _; have := h1 x hx; omega)
      have e2 : cnt r (n + 1) = 0 := cnt_none (fun x hx => by have := h1 x hx; omega)
      have e3 : cnt (n :: r) (n + 1) = cnt r (n + 1) + 1 := by unfold cnt; rw [List.filter_cons_of_pos (by simp; omega)]; rfl
      refine ⟨by rw [e1]; simp, by rw [e1]; rfl, by rw [e3, e2, e1]⟩
    · have hlt := h1 n h
      obtain ⟨i1, i2, i3⟩ := cnt_in h2 h
      have e1 : cnt (a :: r) n = cnt r n + 1 := by unfold cnt; rw [List.filter_cons_of_pos (by simp; omega)]; rfl
      have e2 : cnt (a :: r) (n + 1) = cnt r (n + 1) + 1 := by unfold cnt; rw [List.filter_cons_of_pos (by simp; omega)]; rfl
      refine ⟨by rw [e1]; simp; omega, by rw [e1]; simpa using i2, by rw [e2, e1, i3]⟩
theorem law_l2 (L S : List Int) (at_ n : Nat) (hS : S.length ≤ 100000000000) (hL : L.length ≤ 1000001) (hn : n < 40) (hat : at_ ≤ L.length)
    (hyes : (n : Int) ∈ S → at_ < L.length ∧ L.getD at_ 0 = n) (next : ∀ a : Nat, ((n : Int) ∈ S → a = at_ + 1) → ((n : Int) ∉ S → a = at_) → Ev (fun k => frisketlaw27_IndexPages.l1 k L S (a : Int) ((n + 1 : Nat) : Int)) true) :
    ∀ (d i : Nat) (b : Bool), i + d = S.length → (b = true ↔ (n : Int) ∈ S.take i) → Ev (fun k => frisketlaw27_IndexPages.l2 k L S (at_ : Int) (n : Int) b (i : Int)) true := by
  have e0 : wrap64 ((n : Int) + 1) = ((n + 1 : Nat) : Int) := by rw [w64 (by omega) (by omega)]; rfl
  have e1 : wrap64 ((at_ : Int) + 1) = ((at_ + 1 : Nat) : Int) := by rw [w64 (by omega) (by omega)]; rfl
  intro d
  induction d with
  | zero =>
    intro i b h hb
    rw [List.take_of_length_le (by omega)] at hb
    refine Ev.step (fun k => by rw [frisketlaw27_IndexPages.l2]) ?_
    refine evNeg (by omega) ?_
    cases b with
    | true =>
      have hm := hb.1 rfl
      obtain ⟨h1, h2⟩ := hyes hm
      refine evPos rfl (evNeg (by omega) (evPos (by omega) (evPos (by omega) (evPos (by rw [rd_nat]; exact h2) ?_))))
      rw [e0, e1]
      exact next _ (fun _ => rfl) (fun h => absurd hm h)
    | false =>
      have hm : (n : Int) ∉ S := fun h => by have := hb.2 h; cases this
      refine evNeg (by simp) ?_
      rw [e0]
      exact next _ (fun h => absurd h hm) (fun _ => rfl)
  | succ d ih =>
    intro i b h hb
    have hi : i < S.length := by omega
    have e2 : wrap64 ((i : Int) + 1) = ((i + 1 : Nat) : Int) := by rw [w64 (by omega) (by omega)]; rfl
    have hg : rd S (i : Int) = S[i] := by rw [rd_nat, List.getD_eq_getElem?_getD, List.getElem?_eq_getElem hi]; rfl
    have ht : S.take (i + 1) = S.take i ++ [S[i]] := by rw [List.take_add_one, List.getElem?_eq_getElem hi]; rfl
    refine Ev.step (fun k => by rw [frisketlaw27_IndexPages.l2]) ?_
    refine evPos (by omega) ?_
    cases b with
    | true =>
      refine evPos rfl ?_
      rw [e2]
      refine ih (i + 1) true (by omega) ⟨fun _ => ?_, fun _ => rfl⟩
      rw [ht]; exact List.mem_append.2 (.inl (hb.1 rfl))
    | false =>
      refine evNeg (by simp) (evPos (by omega) ?_)
      rw [e2, hg]
      refine ih (i + 1) _ (by omega) ?_
      rw [ht, List.mem_append, List.mem_singleton]
      constructor
      · intro h; exact .inr (by simpa using (eq_of_beq h).symm)
      · rintro (h | h)
        · have := hb.2 h; cases this
        · rw [← h]; simp
theorem law_l1 (S : List Int) (hS : S.length ≤ 100000000000) (hL : (sortD S).length ≤ 1000001) (hr : ∀ x ∈ S, 0 ≤ x ∧ x < 40) :
    ∀ (d n : Nat), n + d = 40 → Ev (fun k => frisketlaw27_IndexPages.l1 k (sortD S) S (cnt (sortD S) n : Int) (n : Int)) true := by
  intro d
  induction d with
  | zero =>
    intro n h
    obtain rfl : n = 40 := by omega
    refine Ev.step (fun k => by rw [frisketlaw27_IndexPages.l1]) ?_
    refine evNeg (by omega) (evPos ?_ ?_)
    · rw [cnt_all (n := ((40 : Nat) : Int)) (fun x hx => by have := (hr x ((sortD_mem S x).1 hx)).2; omega)]
    · exact evUse sane_some (Ev.now _)
  | succ d ih =>
    intro n h
    have hc : cnt (sortD S) n ≤ (sortD S).length := List.length_filter_le _ _
    have hn : (n : Int) < 40 := by omega
    refine Ev.step (fun k => by rw [frisketlaw27_IndexPages.l1]) ?_
    refine evPos hn ?_
    refine law_l2 (sortD S) S _ n hS hL (by omega) hc (fun hm => ?_) (fun a ha1 ha2 => ?_) S.length 0 false (by omega) (by simp)
    · obtain ⟨h1, h2, _⟩ := cnt_in (sortD_asc S) ((sortD_mem S n).2 hm)
      exact ⟨h1, h2⟩
    · have := ih (n + 1) (by omega)
      by_cases hm : (n : Int) ∈ S
      · obtain ⟨_, _, h3⟩ := cnt_in (sortD_asc S) ((sortD_mem S n).2 hm)
        rw [ha1 hm]
        rw [show ((n + 1 : Nat) : Int) = (n : Int) + 1 from rfl] at this ⊢
        rw [h3] at this
        exact this
      · have h3 := cnt_out (L := sortD S) (n := n) (fun h => hm ((sortD_mem S n).1 h))
        rw [ha2 hm]
        rw [show ((n + 1 : Nat) : Int) = (n : Int) + 1 from rfl] at this ⊢
        rw [h3] at this
        exact this
def small (x : Int) : Int := wrap64 (Int.tmod (IntKind.u64.wrap x) 40)
theorem small_range (x : Int) : 0 ≤ small x ∧ small x < 40 := by
  unfold small
  have e0 : IntKind.u64.wrap x = x % 18446744073709551616 := by rw [IntKind.wrap_u64]
  rw [e0, Int.tmod_eq_emod_of_nonneg (by omega), w64 (by omega) (by omega)]
  omega
theorem law_l0 (l : List Int) (hl : l.length ≤ 200) : ∀ (d i : Nat), i + d = l.length → Ev (fun k => frisketlaw27_IndexPages.l0 k l ((l.take i).map small) (i : Int)) true := by
  intro d
  induction d with
  | zero =>
    intro i h
    rw [List.take_of_length_le (by omega)]
    have hr : ∀ x ∈ l.map small, 0 ≤ x ∧ x < 40 := by
      intro x hx
      obtain ⟨y, _, rfl⟩ := List.mem_map.1 hx
      exact small_range y
    generalize hS : l.map small = S at hr
    have hlen : S.length ≤ 200 := by rw [← hS, List.length_map]; exact hl
    have hsl := sortD_len S
    have hok : OkL (sortD S) := ⟨sortD_asc S, fun x hx => by have := hr x ((sortD_mem S x).1 hx); omega⟩
    have hb : S.any badPage = false := by
      rw [List.any_eq_false]; intro x hx; have := hr x hx; unfold badPage; simp; omega
    have hp : pagesOf S = (bar (pagesT (sortD S)), 0) := by unfold pagesOf; rw [hb]; rfl
    have hpl := pagesT_len (sortD S) hok.2
    have hf : index_Pages.f S = some (bar (pagesT (sortD S)), 0) := by unfold index_Pages.f; rw [if_pos (by omega), hp]
    have hsp : spreadOf (pagesT (sortD S)) = (sortD S, 0) := by
      by_cases h0 : sortD S = []
      · rw [h0, pagesT_nil]; unfold spreadOf; rw [if_pos rfl]
      · by_cases h1 : pagesT (sortD S) = []
        · have hj := spreadR_pages (sortD S) hok h0
          rw [h1] at hj
          have hw : refPart [] = none := refPart_nil
          exact absurd hj (by simp [segs, spreadR, hw])
        · exact spreadOf_yes h1 hok h0 rfl
    refine Ev.step (fun k => by rw [frisketlaw27_IndexPages.l0]) ?_
    refine evNeg (by omega) (evUse hf (evUse (y := (sortD S, (0 : Int))) (by rw [spread_f _ (by rw [bar_size]; omega), bar_data, hsp]) (evPos rfl ?_)))
    refine Ev.step (fun k => by rw [frisketlaw27_IndexPages.j4]) ?_
    refine evNeg (by simp) ?_
    have := law_l1 S (by omega) (by omega) hr 40 0 (by omega)
    rw [cnt_none (n := ((0 : Nat) : Int)) (fun x hx => by have := (hr x ((sortD_mem S x).1 hx)).1; omega)] at this
    exact this
  | succ d ih =>
    intro i h
    have hi : i < l.length := by omega
    have hg : rd l (i : Int) = l[i] := by rw [rd_nat, List.getD_eq_getElem?_getD, List.getElem?_eq_getElem hi]; rfl
    have e2 : wrap64 ((i : Int) + 1) = ((i + 1 : Nat) : Int) := by rw [w64 (by omega) (by omega)]; rfl
    have ht : (l.take (i + 1)).map small = (l.take i).map small ++ [small l[i]] := by rw [List.take_add_one, List.getElem?_eq_getElem hi, Option.toList_some, List.map_append]; rfl
    have hlen : ((l.take i).map small).length < 17592186044416 := by rw [List.length_map, List.length_take]; omega
    refine Ev.step (fun k => by rw [frisketlaw27_IndexPages.l0]) ?_
    refine evPos (by omega) (evPos (by omega) (evPos hlen ?_))
    rw [hg, e2]
    have := ih (i + 1) (by omega)
    rw [ht] at this
    exact this
theorem lawPages_ev (l : List Int) (s : ByteArray) : Ev (fun k => frisketlaw27_IndexPages.f k l s) true := by
  have hj : Ev (fun k => frisketlaw27_IndexPages.j0 k l s true) true := by
    refine Ev.step (fun k => by rw [frisketlaw27_IndexPages.j0]) ?_
    exact evPos rfl (evUse sane_some (Ev.now _))
  unfold frisketlaw27_IndexPages.f
  by_cases h1 : (l.length : Int) > 200
  · exact evPos h1 hj
  · refine evNeg h1 ?_
    by_cases h2 : (s.size : Int) > 300
    · rw [decide_eq_true h2]; exact hj
    · rw [decide_eq_false h2]
      refine Ev.step (fun k => by rw [frisketlaw27_IndexPages.j0]) ?_
      have hf : index_Pages.f l = some (pagesOf l) := by unfold index_Pages.f; rw [if_pos (by omega)]
      refine evNeg (by simp) (evUse hf (Ev.bind (refPages_ev l (by omega)) (evPos rfl ?_)))
      rw [show ((pagesOf l).2 != (pagesOf l).2) = false by simp]
      refine Ev.step (fun k => by rw [frisketlaw27_IndexPages.j1]) ?_
      refine evNeg (by simp) (evUse (spread_f s (by omega)) (Ev.bind (refSpread_ev' s (by omega)) (evPos rfl (Ev.bind (numbers_ev _ (by have := spreadOf_len s.data.toList; omega)) ?_))))
      refine Ev.step (fun k => by rw [frisketlaw27_IndexPages.j2]) ?_
      refine evNeg (by simp) ?_
      exact law_l0 l (by omega) l.length 0 (by omega)

end Go.Proofs.YtanekljbehhjcaaDoor

namespace Go.Proofs.YtanekljbehhjcaaDoor
open Go.ChangeShapes Go.WideShapes Go.RowKit Go.Deep Go.Proofs.YtanekljbehhjcaaDoorW.PrintWords

section
variable {H : Type} {enc : TypeId × Value → H} {P : Program} {w : World} {sp : Nat → Bool} {held : Bool} {α : Type}
theorem open_rows [Inhabited α] (d : Kd α) {t e : TypeId} (Good : α → DataW H → Prop) {r : Reach} {b0 : Nat} {v : Value} {d0 : DataW H} {ps : List MemPlace} (ht : P.underlying t = some (.slice e)) (hc : P.cellsOf e = d.sz)
    (dec : ∀ n cs x, DataW.trod enc P w 0 sp held n e cs = some x → ∃ y : α, d.K w y cs ∧ Good y x.1)
    (hval : Value.okWide P w r b0 t v) (h : DataW.Trod enc P w 0 sp held t v d0 ps) :
    ∃ A c l, v = .slice A l.length c ∧ l.length ≤ c ∧ Kd.C d w A l.length l ∧ (l = [] ∨ ∃ elems spare, d0 = .slice elems spare ∧ elems.length = l.length ∧ ∀ x ∈ l, ∃ D ∈ elems, Good x D) := by
  obtain ⟨a0, len0, cap0, rfl⟩ := okWide_slice ht hval
  obtain ⟨fuel, hf⟩ := h
  rcases open_slice ht hf with ⟨hcs, _⟩ | ⟨a, len, cap, m, n, D, Pl, hcs, _, hl, hm, hmm, hx, hel⟩
  · simp [Value.cells] at hcs
    obtain ⟨rfl, rfl, rfl⟩ := hcs
    exact ⟨none, 0, [], rfl, Nat.le_refl _, ⟨rfl, by simp, fun h => by simp at h⟩, .inl rfl⟩
  · simp [Value.cells] at hcs
    obtain ⟨rfl, rfl, rfl⟩ := hcs
    have hlm : len0 ≤ m := by rw [hmm]; split <;> omega
    obtain ⟨F, hF⟩ := choose_lt (α := α) (p := fun i y => ∃ cs', w.cells? 0 (a.add (i * d.sz)) d.sz = some cs' ∧ d.K w y cs' ∧ Good y (D i)) (n := m) (fun i hi => by
      obtain ⟨cs', h1, h2⟩ := hel i hi
      rw [hc] at h1
      obtain ⟨y, hy, hg⟩ := dec _ _ _ h2
      exact ⟨y, cs', h1, hy, hg⟩)
    refine ⟨some a, cap0, (List.range len0).map F, by simp, by simpa using hl, ⟨rfl, ?_, fun _ => ⟨a, rfl, fun j p hj => ?_⟩⟩, .inr ⟨_, _, (Prod.mk.inj hx).1, by simp, fun x hx => ?_⟩⟩
    · have : maxLen = 9223372036854775807 := rfl
      simp; omega
    · have hj2 : j < len0 := by
        rcases Nat.lt_or_ge j len0 with h1 | h1
        · exact h1
        · rw [List.getElem?_eq_none (by simpa using h1)] at hj; cases hj
      rw [List.getElem?_map, List.getElem?_range hj2] at hj
      cases hj
      obtain ⟨cs', h1, h2, _⟩ := hF j (by omega)
      obtain ⟨_, h3, h4⟩ := World.cells?_some h1
      refine ⟨cs', h3, h2, fun i u hu => ?_⟩
      have hi : i < d.sz := by
        rw [← h3]
        rcases Nat.lt_or_ge i cs'.length with h1 | h1
        · exact h1
        · rw [List.getElem?_eq_none h1] at hu; cases hu
      have := h4 i hi
      rw [Go.Deep.add_add] at this
      rw [this, hu]
    · obtain ⟨i, hi, rfl⟩ := List.mem_map.1 hx
      have hi2 := List.mem_range.1 hi
      obtain ⟨_, _, _, hg⟩ := hF i (by omega)
      exact ⟨D i, List.mem_map.2 ⟨i, hi, rfl⟩, hg⟩
end
theorem weightsAll_mem {H : Type} {P : Program} {e : TypeId} : ∀ {elems : List (DataW H)} {D : DataW H}, D ∈ elems → ∀ n ∈ D.weights P e, n ∈ DataW.weightsAll P e elems
  | d0 :: r, D, h, n, hn => by
    simp only [DataW.weightsAll, List.mem_append]
    rcases List.mem_cons.1 h with rfl | h
    · exact .inl hn
    · exact .inr (weightsAll_mem h n hn)
/-- What an element of a slice that is an argument weighs is bounded. -/
theorem sized_elem {H : Type} {P : Program} {ts : List TypeId} {ds : List (DataW H)} (h : (DataW.weightsEach P ts ds).all (· ≤ reachBytes) = true) {j : Nat} {t e : TypeId} {elems spare : List (DataW H)} (ht : ts[j]? = some t) (hd : ds[j]? = some (.slice elems spare)) (hu : P.underlying t = some (.slice e)) {D : DataW H} (hD : D ∈ elems) {n : Nat} (hn : n ∈ D.weights P e) : n ≤ reachBytes := by
  have := List.all_eq_true.1 h _ (DataW.weights_mem_each ht hd n (by
    simp only [DataW.weights, hu, List.mem_cons, List.mem_append]
    exact .inr (.inl (weightsAll_mem hD n hn))))
  simpa using this
end Go.Proofs.YtanekljbehhjcaaDoor

namespace Go.Proofs.YtanekljbehhjcaaDoor
open Go.RowKit Go.ChangeShapes Go.WideShapes Go.Proofs.YtanekljbehhjcaaDoorW.PrintWords

theorem iface_of_laid {P : Program} {w : World} {l : List (String × DataW Unit)} {n nm : String} {d : DataW Unit} {g : Nat} {t : TypeId} {ms : Array (String × TypeId)} (h : laidMet P l w) (hm : (n, .iface nm d) ∈ l)
    (hg : P.globalNamed n = some g) (ht : (P.globals[g]?).map (·.type) = some t) (hu : P.underlying t = some (.interface ms)) : ∃ tp p, w.var? P n = some #[.iface tp p] := by
  obtain ⟨g', t', cs, fuel, p, e1, e2, e3, e4⟩ := Lib.laidMet.reads h hm
  obtain rfl : g' = g := Option.some.inj (e1.symm.trans hg)
  obtain rfl : t' = t := Option.some.inj (e2.symm.trans ht)
  cases fuel with
  | zero => simp [DataW.trod] at e4
  | succ k =>
    unfold DataW.trod at e4
    rw [hu] at e4
    obtain ⟨cl⟩ := cs
    rw [e3]
    match cl, e4 with
    | [], e4 => simp at e4
    | [v], e4 =>
      cases v <;> simp at e4
      exact ⟨_, _, rfl⟩
    | _ :: _ :: _, e4 => simp at e4
theorem gw_of {W : World} {l : List (String × DataW Unit)} {ds : DataW Unit} {dr : DataW Unit} {n1 n2 : String} (h : laidMet Tryd.prog l W) (hsh : W.ShapedOpen Tryd.prog) (h1 : ("internal/strconv.uint64pow10", Lib.tabData .u64 Lib.pow10Tab) ∈ l) (h2 : ("strconv.ErrSyntax", .iface n1 ds) ∈ l) (h3 : ("strconv.ErrRange", .iface n2 dr) ∈ l) : GW W := by
  have htab : Lib.TabIs Tryd.prog W "internal/strconv.uint64pow10" .u64 Lib.pow10Tab := tabIs_of_laid (g := 3) (t := 132) (e := 100) (n := 20) (by kernel_rfl) (by kernel_rfl) Tryd.underlying132 Tryd.underlying100 (by kernel_rfl) (by kernel_rfl) h h1
  refine ⟨htab, iface_of_laid (g := 1) h h2 (by kernel_rfl) (t := 50) (by kernel_rfl) Tryd.underlying50, iface_of_laid (g := 2) h h3 (by kernel_rfl) (t := 50) (by kernel_rfl) Tryd.underlying50,
    cell_of_shapedOpen_int (t := 3) (zero := #[.int .i64 0]) hsh (of_decide_eq_true (by kernel_rfl)) (by kernel_rfl) rfl (by kernel_rfl) (by kernel_rfl) Tryd.underlying3, ?_⟩
  obtain ⟨o, _, h4, _⟩ := hsh.2 8 (of_decide_eq_true (by kernel_rfl)) (of_decide_eq_true (by kernel_rfl))
  rcases Nat.lt_or_ge 8 W.heap.size with h5 | h5
  · exact h5
  · rw [Array.getElem?_eq_none h5] at h4; cases h4
theorem decI64 {W : World} {sp : Nat → Bool} {held : Bool} {H : Type} {enc : TypeId × Value → H} (n : Nat) (cs : List Value) (x : DataW H × List MemPlace) (h : DataW.trod enc Tryd.prog W 0 sp held n 3 cs = some x) :
    ∃ y : Int, Kd.K (Kd.int .i64) W y cs ∧ (Lit.int .i64 y).wf = true := by
  obtain ⟨n0, e0, _, hw⟩ := DataW.trod_int Tryd.underlying3 h
  exact ⟨n0, e0, hw⟩
end Go.Proofs.YtanekljbehhjcaaDoor
