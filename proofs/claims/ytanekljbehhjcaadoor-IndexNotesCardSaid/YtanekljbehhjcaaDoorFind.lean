/-
  slices.ContainsFunc over an index's pages. No condition.
-/
import Derived.Test.YtanekljbehhjcaaDoorPagesL
import Derived.WalkKit
import Derived.Outline
import Derived.Lib.Hide
import Derived.Deep.QuietTactic
import Derived.BigQuiet
import Derived.WalkSpells
import Derived.WalkLawsBesides
namespace Go.Proofs.YtanekljbehhjcaaDoor
open Go.RowKit Go.Proofs.YtanekljbehhjcaaDoorW.PrintWords

set_option maxRecDepth 100000 in
theorem bad_calls (p : Int) (w : World) : Calls Tryd.prog 21 #[.int .i64 p] w fun e w' => e = .returned (.bool (badPage p)) ∧ w' = w := by
  unfold badPage
  by_cases h : p < 0
  · go_enter Tryd.func21, Tryd.ntmps21
    go_wp2
    go_ret
    exact ⟨by rw [decide_eq_true h]; rfl, rfl⟩
  · go_enter Tryd.func21, Tryd.ntmps21
    go_wp2
    go_ret
    exact ⟨by rw [show decide (p < 0) = false from decide_eq_false (by omega)]; rfl, rfl⟩

set_option maxRecDepth 100000 in
set_option maxHeartbeats 1000000 in
theorem find_bad (A0 : Option Addr) (c0 : Nat) (l : List Int) (w : World) (hr : Kd.C (Kd.int .i64) w A0 l.length l) (hl : l.length ≤ 9223372036854775807) :
    Calls Tryd.prog 37 #[.slice A0 l.length c0, .func (.func 21) #[] #[]] w fun e w' => (∃ n : Int, e = .returned (.int .i64 n) ∧ (decide (0 ≤ n)) = l.any badPage) ∧ w' = w := by
  go_enter Tryd.func37, Tryd.ntmps37
  go_wp2
  go_loop [8] (fun i => ∃ k : Nat, k ≤ l.length ∧ i = .int .i64 k ∧ (l.take k).any badPage = false) (fun i => l.length - (intOf i).toNat)
  case atStart => exact ⟨0, Nat.zero_le _, rfl, by simp⟩
  case round =>
    obtain ⟨k, hk, rfl, hn⟩ := hrel
    have HN := Lib.hid hn
    clear hn
    by_cases hlt : k < l.length
    · obtain ⟨ad, e, hc⟩ := Kd.at_int hr k (by omega) (by omega)
      cases e
      rw [Int.toNat_natCast, rd_nat] at hc
      have hcall := bad_calls l[k] w
      cases hb : badPage l[k] with
      | true =>
        rw [hb] at hcall
        have hfin : l.any badPage = true := List.any_eq_true.2 ⟨_, List.getElem_mem hlt, hb⟩
        have HF := Lib.hid hfin
        clear hfin hb HN
        go_wp2_with fail
        refine hcall.mono ?_; rintro e w' ⟨rfl, rfl⟩
        go_wp2_with fail
        go_ret
        exact ⟨⟨_, rfl, by rw [HF.out]; exact decide_eq_true (by omega)⟩, rfl⟩
      | false =>
        rw [hb] at hcall
        have hfin : (l.take (k + 1)).any badPage = false := by
          rw [List.take_add_one, List.getElem?_eq_getElem hlt, Option.toList_some, List.any_append, HN.out]; simp [hb]
        have HF := Lib.hid hfin
        clear hfin hb HN
        go_wp2_with fail
        refine hcall.mono ?_; rintro e w' ⟨rfl, rfl⟩
        go_wp2_with fail
        go_round
        case rel => exact ⟨k + 1, by omega, by go_num, HF.out⟩
        case measure => simp [intOf]; omega
    · have hfin : l.any badPage = false := by
        have := HN.out
        rwa [List.take_of_length_le (by omega)] at this
      have HF := Lib.hid hfin
      clear hfin HN
      go_wp2_with fail
      go_ret
      exact ⟨⟨_, rfl, by rw [HF.out]; rfl⟩, rfl⟩
set_option maxRecDepth 100000 in
theorem has_bad (A0 : Option Addr) (c0 : Nat) (l : List Int) (w : World) (hr : Kd.C (Kd.int .i64) w A0 l.length l) (hl : l.length ≤ 9223372036854775807) :
    Calls Tryd.prog 20 #[.slice A0 l.length c0, .func (.func 21) #[] #[]] w fun e w' => e = .returned (.bool (l.any badPage)) ∧ w' = w := by
  have h := find_bad A0 c0 l w hr hl
  generalize l.any badPage = b at h ⊢
  go_enter Tryd.func20, Tryd.ntmps20
  go_wp2_with fail
  refine h.mono ?_; rintro e w' ⟨⟨n, rfl, hn⟩, rfl⟩
  have HN := Lib.hid hn
  clear hn
  go_wp2_with fail
  go_ret
  exact ⟨by rw [← HN.out]; rfl, rfl⟩
end Go.Proofs.YtanekljbehhjcaaDoor
