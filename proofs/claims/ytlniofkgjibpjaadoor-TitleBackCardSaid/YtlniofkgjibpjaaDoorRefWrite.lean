/-
  The reference's Write returns the title of three parts, or refuses, as title.Write does; parts of at most 3000 bytes together.
-/
import Derived.Test.YtlniofkgjibpjaaDoorCutLen
import Derived.Laws.BytesArg
namespace Go.Proofs.YtlniofkgjibpjaaDoor
open Go.RowKit
theorem isText_l (l : List UInt8) (w : World) (hl : l.length ≤ 100000) : Calls Tryd.prog 22 #[.string (bar l)] w (fun e w' => e = .returned (.bool (textB l)) ∧ w = w') := isText_any (bar l) w (by rw [bar_size]; omega)
theorem one_byte (n : Int) (W : World) : (convert 47 9 (.slice (some ⟨W.heap.size, 0, none⟩) 1 1)).run Tryd.prog (W.alloc (.cells #[.int .u8 n] 5)) = .ok (.string ⟨#[UInt8.ofNat n.toNat]⟩) (W.alloc (.cells #[.int .u8 n] 5)) :=
  run_convert_bytes_arg (P := Tryd.prog) _ 47 5 Tryd.underlying47 Tryd.underlying5 W.heap.size 0 1 1 [n] rfl (fun i hi => by
    obtain rfl : i = 0 := by omega
    exact (BlockIs.fresh W 5 [.int .u8 n]).cellAt 0 _ rfl) 9 Tryd.underlying9
theorem joined_q (q : UInt8) (x y z : List UInt8) : ((((((ByteArray.mk #[q] ++ bar x) ++ ByteArray.mk #[q]) ++ bar y) ++ ByteArray.mk #[q]) ++ bar z) ++ ByteArray.mk #[q]) = bar (q :: (joinQ q x y z ++ [q])) := by
  show ((((((bar [q] ++ bar x) ++ bar [q]) ++ bar y) ++ bar [q]) ++ bar z) ++ bar [q]) = _
  simp only [bar_app]
  simp [joinQ]
theorem held_step {w W w3 : World} {b : Nat} {x y z : Value} (hb : Below W.heap.size W w3)
    (h : W.cell? ⟨b, 0, none⟩ = some x ∧ W.cell? ⟨b, 1, none⟩ = some y ∧ W.cell? ⟨b, 2, none⟩ = some z ∧ Below w.heap.size w W ∧ b < W.heap.size) :
    w3.cell? ⟨b, 0, none⟩ = some x ∧ w3.cell? ⟨b, 1, none⟩ = some y ∧ w3.cell? ⟨b, 2, none⟩ = some z ∧ Below w.heap.size w w3 ∧ b < w3.heap.size := by
  obtain ⟨h0, h1, h2, h3, h4⟩ := h
  exact ⟨(hb.cell (p := ⟨b, 0, none⟩) h4).trans h0, (hb.cell (p := ⟨b, 1, none⟩) h4).trans h1, (hb.cell (p := ⟨b, 2, none⟩) h4).trans h2, h3.trans (hb.mono h3.size), Nat.lt_of_lt_of_le h4 hb.size⟩
set_option maxRecDepth 100000 in
set_option maxHeartbeats 4000000 in
theorem refWrite_any (x y z : List UInt8) (w : World) (hl : x.length + y.length + z.length ≤ 3000) :
    Calls Tryd.prog 15 #[.agg #[.string (bar x), .string (bar y), .string (bar z)]] w fun e w' => e = .returned (.tuple #[.string (bar (writeV x y z).1), .int .i64 (writeV x y z).2]) ∧ Below w.heap.size w w' := by
  have hV : writeV x y z = (if textB ((x ++ y ++ z) ++ [49, 50, 51, 52]) = false then (([] : List UInt8), (1 : Int)) else
    match ([39, 34, 47, 124, 126] : List UInt8).find? (fun q => !hasB q (x ++ y ++ z)) with
    | some q => (q :: (joinQ q x y z ++ [q]), 0)
    | none => ([], 4)) := rfl
  rw [text_parts] at hV
  have HV := Lib.hid hV
  clear hV
  have sx : (bar x).size = x.length := bar_size x
  have sy : (bar y).size = y.length := bar_size y
  have sz : (bar z).size = z.length := bar_size z
  go_enter Tryd.func15, Tryd.ntmps15
  go_wp2_with fail
  refine wp_loop_rounds 4 ?_
  repeat any_goals (rw [rounds_succ]; go_wp2_with (go_at_call 22; refine (isText_l _ _ ?_).mono ?_; omega; rintro e w' ⟨rfl, rfl⟩))
  iterate 3
    · go_ret2
      refine ⟨?_, by go_grown⟩
      rw [HV.out]
      simp_all
      try rfl
  · go_ret2
    refine ⟨?_, by go_grown⟩
    have hlt : 2000 < 4 + x.length + y.length + z.length := by omega
    rw [HV.out, if_pos (by rw [decide_eq_false (by omega : ¬ 4 + x.length + y.length + z.length ≤ 2000)]; simp)]
    rfl
  have hsz : 4 + (x.length : Int) + y.length + z.length ≤ 2000 := by assumption
  have hT : (textB x && (textB y && (textB z && decide (4 + x.length + y.length + z.length ≤ 2000)))) = true := by
    have h1 : (!textB x) = false := by assumption
    have h2 : (!textB y) = false := by assumption
    have h3 : (!textB z) = false := by assumption
    simp at h1 h2 h3
    rw [h1, h2, h3]; simp; omega
  have hV2 : writeV x y z = (match ([39, 34, 47, 124, 126] : List UInt8).find? (fun q => !hasB q (x ++ y ++ z)) with
    | some q => (q :: (joinQ q x y z ++ [q]), 0)
    | none => ([], 4)) := by rw [HV.out, if_neg (by rw [hT]; simp)]
  have HV2 := Lib.hid hV2
  clear hV2 hT HV
  have b0 := BlockIs.fresh w 23 [.string (bar x), .string (bar y), .string (bar z)]
  have m0 : (w.alloc (.cells #[.string (bar x), .string (bar y), .string (bar z)] 23)).cell? ⟨w.heap.size, 0, none⟩ = some (.string (bar x)) := b0.cellAt 0 _ rfl
  have m1 : (w.alloc (.cells #[.string (bar x), .string (bar y), .string (bar z)] 23)).cell? ⟨w.heap.size, 1, none⟩ = some (.string (bar y)) := b0.cellAt 1 _ rfl
  have m2 : (w.alloc (.cells #[.string (bar x), .string (bar y), .string (bar z)] 23)).cell? ⟨w.heap.size, 2, none⟩ = some (.string (bar z)) := b0.cellAt 2 _ rfl
  have hB0 : Below w.heap.size w (w.alloc (.cells #[.string (bar x), .string (bar y), .string (bar z)] 23)) := by go_grown
  have hin : w.heap.size < (w.alloc (.cells #[.string (bar x), .string (bar y), .string (bar z)] 23)).heap.size := by simp
  clear b0
  generalize w.alloc (.cells #[.string (bar x), .string (bar y), .string (bar z)] 23) = w0 at *
  have i0 : (((ByteArray.mk #[39, 34, 47, 124, 126])[0]'(by decide)).toNat : Int) = 39 := rfl
  have i1 : (((ByteArray.mk #[39, 34, 47, 124, 126])[1]'(by decide)).toNat : Int) = 34 := rfl
  have i2 : (((ByteArray.mk #[39, 34, 47, 124, 126])[2]'(by decide)).toNat : Int) = 47 := rfl
  have i3 : (((ByteArray.mk #[39, 34, 47, 124, 126])[3]'(by decide)).toNat : Int) = 124 := rfl
  have i4 : (((ByteArray.mk #[39, 34, 47, 124, 126])[4]'(by decide)).toNat : Int) = 126 := rfl
  refine wp_loop_rounds 6 ?_
  have e1 : IntKind.i64.wrap (((cutL 39 x).length : Int) + (cutL 39 y).length) = ((cutL 39 x).length : Int) + (cutL 39 y).length := IntWalk.i64_in _ (by have h1 := cutL_len 39 x; have h2 := cutL_len 39 y; omega)
  have e2 : IntKind.i64.wrap ((((cutL 39 x).length : Int) + (cutL 39 y).length) + (cutL 39 z).length) = (((cutL 39 x).length : Int) + (cutL 39 y).length) + (cutL 39 z).length := IntWalk.i64_in _ (by have h1 := cutL_len 39 x; have h2 := cutL_len 39 y; have h3 := cutL_len 39 z; omega)
  have t := cut_sum 39 x y z
  rw [rounds_succ]
  cases hq39 : hasB 39 (x ++ y ++ z) with
  | false =>
    rw [hq39] at t
    have H39 := Lib.hid hq39
    clear hq39
    go_wp2_with fail
    go_region_held3 (fun w' => w'.cell? ⟨w.heap.size, 0, none⟩ = some (.string (bar x)) ∧ w'.cell? ⟨w.heap.size, 1, none⟩ = some (.string (bar y)) ∧ w'.cell? ⟨w.heap.size, 2, none⟩ = some (.string (bar z)) ∧ Below w.heap.size w w' ∧ w.heap.size < w'.heap.size) (first | exact ⟨m0, m1, m2, hB0.drew, hin⟩ | exact hs) (first | (go_at_call 23; refine (cut39 _ _ ?_).mono ?_; omega; rintro e w3 ⟨g, cap, rfl, hb⟩; have hs := held_step hb (by assumption)))
    obtain ⟨m0, m1, m2, hB, hin⟩ := hs
    clear e1 e2 t
    have cv := one_byte 39
    go_wp2_with fail
    go_ret2
    exact ⟨by rw [HV2.out, joined_q]; simp only [List.find?, H39.out]; rfl, hB.trans (by go_grown)⟩
  | true =>
    rw [hq39] at t
    have H39 := Lib.hid hq39
    clear hq39
    go_wp2_with fail
    go_region_held3 (fun w' => w'.cell? ⟨w.heap.size, 0, none⟩ = some (.string (bar x)) ∧ w'.cell? ⟨w.heap.size, 1, none⟩ = some (.string (bar y)) ∧ w'.cell? ⟨w.heap.size, 2, none⟩ = some (.string (bar z)) ∧ Below w.heap.size w w' ∧ w.heap.size < w'.heap.size) (first | exact ⟨m0, m1, m2, hB0.drew, hin⟩ | exact hs) (first | (go_at_call 23; refine (cut39 _ _ ?_).mono ?_; omega; rintro e w3 ⟨g, cap, rfl, hb⟩; have hs := held_step hb (by assumption)))
    obtain ⟨m0, m1, m2, hB, hin⟩ := hs
    clear e1 e2 t
    have cv := one_byte 39
    go_wp2_with fail
    clear cv i0
    have e1 : IntKind.i64.wrap (((cutL 34 x).length : Int) + (cutL 34 y).length) = ((cutL 34 x).length : Int) + (cutL 34 y).length := IntWalk.i64_in _ (by have h1 := cutL_len 34 x; have h2 := cutL_len 34 y; omega)
    have e2 : IntKind.i64.wrap ((((cutL 34 x).length : Int) + (cutL 34 y).length) + (cutL 34 z).length) = (((cutL 34 x).length : Int) + (cutL 34 y).length) + (cutL 34 z).length := IntWalk.i64_in _ (by have h1 := cutL_len 34 x; have h2 := cutL_len 34 y; have h3 := cutL_len 34 z; omega)
    have t := cut_sum 34 x y z
    rw [rounds_succ]
    cases hq34 : hasB 34 (x ++ y ++ z) with
    | false =>
      rw [hq34] at t
      have H34 := Lib.hid hq34
      clear hq34
      go_wp2_with fail
      go_region_held3 (fun w' => w'.cell? ⟨w.heap.size, 0, none⟩ = some (.string (bar x)) ∧ w'.cell? ⟨w.heap.size, 1, none⟩ = some (.string (bar y)) ∧ w'.cell? ⟨w.heap.size, 2, none⟩ = some (.string (bar z)) ∧ Below w.heap.size w w' ∧ w.heap.size < w'.heap.size) (first | exact ⟨m0, m1, m2, hB.drew, hin⟩ | exact hs) (first | (go_at_call 23; refine (cut34 _ _ ?_).mono ?_; omega; rintro e w3 ⟨g, cap, rfl, hb⟩; have hs := held_step hb (by assumption)))
      obtain ⟨m0, m1, m2, hB, hin⟩ := hs
      clear e1 e2 t
      have cv := one_byte 34
      go_wp2_with fail
      go_ret2
      exact ⟨by rw [HV2.out, joined_q]; simp only [List.find?, H39.out, H34.out]; rfl, hB.trans (by go_grown)⟩
    | true =>
      rw [hq34] at t
      have H34 := Lib.hid hq34
      clear hq34
      go_wp2_with fail
      go_region_held3 (fun w' => w'.cell? ⟨w.heap.size, 0, none⟩ = some (.string (bar x)) ∧ w'.cell? ⟨w.heap.size, 1, none⟩ = some (.string (bar y)) ∧ w'.cell? ⟨w.heap.size, 2, none⟩ = some (.string (bar z)) ∧ Below w.heap.size w w' ∧ w.heap.size < w'.heap.size) (first | exact ⟨m0, m1, m2, hB.drew, hin⟩ | exact hs) (first | (go_at_call 23; refine (cut34 _ _ ?_).mono ?_; omega; rintro e w3 ⟨g, cap, rfl, hb⟩; have hs := held_step hb (by assumption)))
      obtain ⟨m0, m1, m2, hB, hin⟩ := hs
      clear e1 e2 t
      have cv := one_byte 34
      go_wp2_with fail
      clear cv i1
      have e1 : IntKind.i64.wrap (((cutL 47 x).length : Int) + (cutL 47 y).length) = ((cutL 47 x).length : Int) + (cutL 47 y).length := IntWalk.i64_in _ (by have h1 := cutL_len 47 x; have h2 := cutL_len 47 y; omega)
      have e2 : IntKind.i64.wrap ((((cutL 47 x).length : Int) + (cutL 47 y).length) + (cutL 47 z).length) = (((cutL 47 x).length : Int) + (cutL 47 y).length) + (cutL 47 z).length := IntWalk.i64_in _ (by have h1 := cutL_len 47 x; have h2 := cutL_len 47 y; have h3 := cutL_len 47 z; omega)
      have t := cut_sum 47 x y z
      rw [rounds_succ]
      cases hq47 : hasB 47 (x ++ y ++ z) with
      | false =>
        rw [hq47] at t
        have H47 := Lib.hid hq47
        clear hq47
        go_wp2_with fail
        go_region_held3 (fun w' => w'.cell? ⟨w.heap.size, 0, none⟩ = some (.string (bar x)) ∧ w'.cell? ⟨w.heap.size, 1, none⟩ = some (.string (bar y)) ∧ w'.cell? ⟨w.heap.size, 2, none⟩ = some (.string (bar z)) ∧ Below w.heap.size w w' ∧ w.heap.size < w'.heap.size) (first | exact ⟨m0, m1, m2, hB.drew, hin⟩ | exact hs) (first | (go_at_call 23; refine (cut47 _ _ ?_).mono ?_; omega; rintro e w3 ⟨g, cap, rfl, hb⟩; have hs := held_step hb (by assumption)))
        obtain ⟨m0, m1, m2, hB, hin⟩ := hs
        clear e1 e2 t
        have cv := one_byte 47
        go_wp2_with fail
        go_ret2
        exact ⟨by rw [HV2.out, joined_q]; simp only [List.find?, H39.out, H34.out, H47.out]; rfl, hB.trans (by go_grown)⟩
      | true =>
        rw [hq47] at t
        have H47 := Lib.hid hq47
        clear hq47
        go_wp2_with fail
        go_region_held3 (fun w' => w'.cell? ⟨w.heap.size, 0, none⟩ = some (.string (bar x)) ∧ w'.cell? ⟨w.heap.size, 1, none⟩ = some (.string (bar y)) ∧ w'.cell? ⟨w.heap.size, 2, none⟩ = some (.string (bar z)) ∧ Below w.heap.size w w' ∧ w.heap.size < w'.heap.size) (first | exact ⟨m0, m1, m2, hB.drew, hin⟩ | exact hs) (first | (go_at_call 23; refine (cut47 _ _ ?_).mono ?_; omega; rintro e w3 ⟨g, cap, rfl, hb⟩; have hs := held_step hb (by assumption)))
        obtain ⟨m0, m1, m2, hB, hin⟩ := hs
        clear e1 e2 t
        have cv := one_byte 47
        go_wp2_with fail
        clear cv i2
        have e1 : IntKind.i64.wrap (((cutL 124 x).length : Int) + (cutL 124 y).length) = ((cutL 124 x).length : Int) + (cutL 124 y).length := IntWalk.i64_in _ (by have h1 := cutL_len 124 x; have h2 := cutL_len 124 y; omega)
        have e2 : IntKind.i64.wrap ((((cutL 124 x).length : Int) + (cutL 124 y).length) + (cutL 124 z).length) = (((cutL 124 x).length : Int) + (cutL 124 y).length) + (cutL 124 z).length := IntWalk.i64_in _ (by have h1 := cutL_len 124 x; have h2 := cutL_len 124 y; have h3 := cutL_len 124 z; omega)
        have t := cut_sum 124 x y z
        rw [rounds_succ]
        cases hq124 : hasB 124 (x ++ y ++ z) with
        | false =>
          rw [hq124] at t
          have H124 := Lib.hid hq124
          clear hq124
          go_wp2_with fail
          go_region_held3 (fun w' => w'.cell? ⟨w.heap.size, 0, none⟩ = some (.string (bar x)) ∧ w'.cell? ⟨w.heap.size, 1, none⟩ = some (.string (bar y)) ∧ w'.cell? ⟨w.heap.size, 2, none⟩ = some (.string (bar z)) ∧ Below w.heap.size w w' ∧ w.heap.size < w'.heap.size) (first | exact ⟨m0, m1, m2, hB.drew, hin⟩ | exact hs) (first | (go_at_call 23; refine (cut124 _ _ ?_).mono ?_; omega; rintro e w3 ⟨g, cap, rfl, hb⟩; have hs := held_step hb (by assumption)))
          obtain ⟨m0, m1, m2, hB, hin⟩ := hs
          clear e1 e2 t
          have cv := one_byte 124
          go_wp2_with fail
          go_ret2
          exact ⟨by rw [HV2.out, joined_q]; simp only [List.find?, H39.out, H34.out, H47.out, H124.out]; rfl, hB.trans (by go_grown)⟩
        | true =>
          rw [hq124] at t
          have H124 := Lib.hid hq124
          clear hq124
          go_wp2_with fail
          go_region_held3 (fun w' => w'.cell? ⟨w.heap.size, 0, none⟩ = some (.string (bar x)) ∧ w'.cell? ⟨w.heap.size, 1, none⟩ = some (.string (bar y)) ∧ w'.cell? ⟨w.heap.size, 2, none⟩ = some (.string (bar z)) ∧ Below w.heap.size w w' ∧ w.heap.size < w'.heap.size) (first | exact ⟨m0, m1, m2, hB.drew, hin⟩ | exact hs) (first | (go_at_call 23; refine (cut124 _ _ ?_).mono ?_; omega; rintro e w3 ⟨g, cap, rfl, hb⟩; have hs := held_step hb (by assumption)))
          obtain ⟨m0, m1, m2, hB, hin⟩ := hs
          clear e1 e2 t
          have cv := one_byte 124
          go_wp2_with fail
          clear cv i3
          have e1 : IntKind.i64.wrap (((cutL 126 x).length : Int) + (cutL 126 y).length) = ((cutL 126 x).length : Int) + (cutL 126 y).length := IntWalk.i64_in _ (by have h1 := cutL_len 126 x; have h2 := cutL_len 126 y; omega)
          have e2 : IntKind.i64.wrap ((((cutL 126 x).length : Int) + (cutL 126 y).length) + (cutL 126 z).length) = (((cutL 126 x).length : Int) + (cutL 126 y).length) + (cutL 126 z).length := IntWalk.i64_in _ (by have h1 := cutL_len 126 x; have h2 := cutL_len 126 y; have h3 := cutL_len 126 z; omega)
          have t := cut_sum 126 x y z
          rw [rounds_succ]
          cases hq126 : hasB 126 (x ++ y ++ z) with
          | false =>
            rw [hq126] at t
            have H126 := Lib.hid hq126
            clear hq126
            go_wp2_with fail
            go_region_held3 (fun w' => w'.cell? ⟨w.heap.size, 0, none⟩ = some (.string (bar x)) ∧ w'.cell? ⟨w.heap.size, 1, none⟩ = some (.string (bar y)) ∧ w'.cell? ⟨w.heap.size, 2, none⟩ = some (.string (bar z)) ∧ Below w.heap.size w w' ∧ w.heap.size < w'.heap.size) (first | exact ⟨m0, m1, m2, hB.drew, hin⟩ | exact hs) (first | (go_at_call 23; refine (cut126 _ _ ?_).mono ?_; omega; rintro e w3 ⟨g, cap, rfl, hb⟩; have hs := held_step hb (by assumption)))
            obtain ⟨m0, m1, m2, hB, hin⟩ := hs
            clear e1 e2 t
            have cv := one_byte 126
            go_wp2_with fail
            go_ret2
            exact ⟨by rw [HV2.out, joined_q]; simp only [List.find?, H39.out, H34.out, H47.out, H124.out, H126.out]; rfl, hB.trans (by go_grown)⟩
          | true =>
            rw [hq126] at t
            have H126 := Lib.hid hq126
            clear hq126
            go_wp2_with fail
            go_region_held3 (fun w' => w'.cell? ⟨w.heap.size, 0, none⟩ = some (.string (bar x)) ∧ w'.cell? ⟨w.heap.size, 1, none⟩ = some (.string (bar y)) ∧ w'.cell? ⟨w.heap.size, 2, none⟩ = some (.string (bar z)) ∧ Below w.heap.size w w' ∧ w.heap.size < w'.heap.size) (first | exact ⟨m0, m1, m2, hB.drew, hin⟩ | exact hs) (first | (go_at_call 23; refine (cut126 _ _ ?_).mono ?_; omega; rintro e w3 ⟨g, cap, rfl, hb⟩; have hs := held_step hb (by assumption)))
            obtain ⟨m0, m1, m2, hB, hin⟩ := hs
            clear e1 e2 t
            have cv := one_byte 126
            go_wp2_with fail
            clear cv i4
            rw [rounds_succ]
            go_wp2_with fail
            go_ret2
            exact ⟨by rw [HV2.out]; simp only [List.find?, H39.out, H34.out, H47.out, H124.out, H126.out]; rfl, hB.trans (by go_grown)⟩
end Go.Proofs.YtlniofkgjibpjaaDoor
