/-
  The law TitleChars returns true at any numbers and any page. No condition.
-/
import Derived.Test.YtlniofkgjibpjaaDoorNumber
import Derived.Test.YtlniofkgjibpjaaDoorLawPlaces
import Derived.ChangeSlices
import Derived.OpenShut
namespace Go.Proofs.YtlniofkgjibpjaaDoor
open Go.RowKit Go.ChangeShapes Go.WideShapes Go.ChangeAt
theorem rem8 (z : Int) : ∃ k : Nat, k < 8 ∧ IntKind.i64.wrap ((IntKind.u64.wrap z).tmod 8) = (k : Int) ∧ wrap64 ((IntKind.u64.wrap z).tmod 8) = (k : Int) ∧ IntKind.i64.wrap ((IntKind.u64.wrap z) % 8) = (k : Int) := by
  have h : 0 ≤ IntKind.u64.wrap z := by rw [IntKind.wrap_u64]; omega
  refine ⟨(IntKind.u64.wrap z % 8).toNat, by omega, ?_, ?_, ?_⟩
  · rw [Int.tmod_eq_emod_of_nonneg h, IntKind.wrap_i64]; omega
  · rw [Int.tmod_eq_emod_of_nonneg h]; unfold wrap64; omega
  · rw [IntKind.wrap_i64]; omega

def CharRel (len : Nat) (w : World) (s i : Value) (wr : World) : Prop := ∃ (n : Nat) (acc : List UInt8), i = .int .i64 n ∧ s = .string (bar acc) ∧ acc.length = n ∧ n ≤ 60 ∧ n ≤ len ∧ Below w.heap.size w wr

set_option maxRecDepth 100000 in
set_option maxHeartbeats 2000000 in
theorem lawChars (b off len cap : Nat) (zs : List Int) (page m : Int) (w : World) (hm : w.cell? ⟨0, 0, none⟩ = some (.int .i64 m)) (hp1 : -9223372036854775808 ≤ page) (hp2 : page ≤ 9223372036854775807)
    (htab : Lib.TabIs Tryd.prog w "internal/strconv.uint64pow10" .u64 Lib.pow10Tab) (hg1 : 1 < w.heap.size) (hz : zs.length = cap) (hl : len ≤ cap) (hlm : len ≤ 9223372036854775807) (hb : b < w.heap.size)
    (hc : ∀ j, j < zs.length → w.cell? ⟨b, off + j, none⟩ = some (.int .i64 (zs.getD j 0))) :
    Calls Tryd.prog 7 #[.slice (some ⟨b, off, none⟩) len cap, .int .i64 page] w fun e w' => e = .returned (.bool true) ∧ Below w.heap.size w w' := by
  have HM := Lib.hid hm
  have HT := Lib.hid htab
  have HC := Lib.hid hc
  clear hm htab hc
  go_enter Tryd.func7, Tryd.ntmps7
  go_wp2_with fail
  go_loopw [5, 6] (fun s i wr => CharRel len w s i wr) (fun _ i _ => 60 - (intOf i).toNat)
  case atStart => exact ⟨0, [], rfl, rfl, rfl, by omega, by omega, Below.refl _ _⟩
  case round =>
    obtain ⟨n, acc, rfl, rfl, hacc, h60, hnl, hbel⟩ := hrel
    have hal : (bar acc).size ≤ 60 := by rw [bar_size]; omega
    have hsz := hbel.size
    have HA := Lib.hid hacc
    clear hacc
    by_cases hlt : n < len ∧ n < 60
    · obtain ⟨h1, h2⟩ := hlt
      have h1' : (n : Int) < (len : Int) := by omega
      have h2' : (n : Int) < 60 := by omega
      have hcell : wr.cell? ⟨b, off + n, none⟩ = some (.int .i64 (zs.getD n 0)) := (hbel.cell (p := ⟨b, off + n, none⟩) hb).trans (HC.out n (by omega))
      generalize zs.getD n 0 = z at hcell
      obtain ⟨k, hk, e1, e2, e3⟩ := rem8 z
      have e4 : IntKind.i64.wrap ((k : Int) + 1) = (k : Int) + 1 := IntWalk.i64_in _ (by omega)
      go_wp2_with fail
      go_quiet (fail)
      go_wp2
      go_roundw
      case rel =>
        refine ⟨n + 1, acc ++ [(ByteArray.mk #[37, 37, 92, 97, 32, 92, 37, 98])[k]'hk], by go_num, ?_, by simp [HA.out], by omega, by omega, below_drewN hbel _⟩
        rw [extract_one (ByteArray.mk #[37, 37, 92, 97, 32, 92, 37, 98]) k hk, bar_app]
      case measure => simp [intOf]; omega
    · have hno : (decide ((n : Int) < (len : Int)) && decide ((n : Int) < 60)) = false := by
        rw [Bool.and_eq_false_iff]; simp; omega
      by_cases hn1 : n < len
      all_goals
        go_wp2_with fail
        refine wp_loop_rounds 4 ?_
        have hw0 : 0 < w.heap.size := by omega
        rw [rounds_succ]
        go_wp2_with fail
        refine (number_any (bar acc) _ page _ (by omega) hp1 hp2 (var?_below hbel (by kernel_rfl) hg1 HT.out) (by have := (hbel).size; omega)).mono ?_
        rintro e a0 ⟨rfl, ha0⟩
        have hA0 := (hbel).trans (ha0.mono (hbel).size)
        go_wp2_with fail
        refine (refNumber_any (bar acc) _ page _ (by omega) hp1 hp2).mono ?_
        rintro e b0 ⟨rfl, hb0⟩
        have hB0 := hA0.trans (hb0.mono hA0.size)
        clear ha0 hb0
        go_wp2_with fail
        rw [rounds_succ]
        go_wp2_with fail
        refine (number_any (bar acc) _ page _ (by omega) hp1 hp2 (var?_below hB0 (by kernel_rfl) hg1 HT.out) (by have := (hB0).size; omega)).mono ?_
        rintro e a1 ⟨rfl, ha1⟩
        have hA1 := (hB0).trans (ha1.mono (hB0).size)
        go_wp2_with fail
        refine (refNumber_any (bar acc) _ page _ (by omega) hp1 hp2).mono ?_
        rintro e b1 ⟨rfl, hb1⟩
        have hB1 := hA1.trans (hb1.mono hA1.size)
        clear ha1 hb1
        go_wp2_with fail
        rw [rounds_succ]
        go_wp2_with fail
        refine (number_any (bar acc) _ page _ (by omega) hp1 hp2 (var?_below hB1 (by kernel_rfl) hg1 HT.out) (by have := (hB1).size; omega)).mono ?_
        rintro e a2 ⟨rfl, ha2⟩
        have hA2 := (hB1).trans (ha2.mono (hB1).size)
        go_wp2_with fail
        refine (refNumber_any (bar acc) _ page _ (by omega) hp1 hp2).mono ?_
        rintro e b2 ⟨rfl, hb2⟩
        have hB2 := hA2.trans (hb2.mono hA2.size)
        clear ha2 hb2
        go_wp2_with fail
        rw [rounds_succ]
        go_wp2_with fail
        refine (sane_any m _ (later hB2 hw0 HM.out)).mono ?_
        rintro e w4 ⟨rfl, hb4⟩
        go_wp2
        go_ret
        exact ⟨rfl, hB2.trans (hb4.mono hB2.size)⟩
set_option maxRecDepth 100000 in
set_option maxHeartbeats 2000000 in
theorem lawChars0 (ad : Option Addr) (cap : Nat) (page m : Int) (w : World) (hm : w.cell? ⟨0, 0, none⟩ = some (.int .i64 m)) (hp1 : -9223372036854775808 ≤ page) (hp2 : page ≤ 9223372036854775807)
    (htab : Lib.TabIs Tryd.prog w "internal/strconv.uint64pow10" .u64 Lib.pow10Tab) (hg1 : 1 < w.heap.size) :
    Calls Tryd.prog 7 #[.slice ad 0 cap, .int .i64 page] w fun e w' => e = .returned (.bool true) ∧ Below w.heap.size w w' := by
  have HM := Lib.hid hm
  have HT := Lib.hid htab
  clear hm htab
  go_enter Tryd.func7, Tryd.ntmps7
  go_wp2_with fail
  go_loopw [5, 6] (fun s i wr => CharRel 0 w s i wr) (fun _ i _ => 60 - (intOf i).toNat)
  case atStart => exact ⟨0, [], rfl, rfl, rfl, by omega, by omega, Below.refl _ _⟩
  case round =>
    obtain ⟨n, acc, rfl, rfl, hacc, h60, hnl, hbel⟩ := hrel
    have hal : (bar acc).size ≤ 60 := by rw [bar_size]; omega
    have hsz := hbel.size
    have HA := Lib.hid hacc
    clear hacc
    obtain rfl : n = 0 := by omega
    go_wp2_with fail
    refine wp_loop_rounds 4 ?_
    have hw0 : 0 < w.heap.size := by omega
    rw [rounds_succ]
    go_wp2_with fail
    refine (number_any (bar acc) _ page _ (by omega) hp1 hp2 (var?_below hbel (by kernel_rfl) hg1 HT.out) (by have := (hbel).size; omega)).mono ?_
    rintro e a0 ⟨rfl, ha0⟩
    have hA0 := (hbel).trans (ha0.mono (hbel).size)
    go_wp2_with fail
    refine (refNumber_any (bar acc) _ page _ (by omega) hp1 hp2).mono ?_
    rintro e b0 ⟨rfl, hb0⟩
    have hB0 := hA0.trans (hb0.mono hA0.size)
    clear ha0 hb0
    go_wp2_with fail
    rw [rounds_succ]
    go_wp2_with fail
    refine (number_any (bar acc) _ page _ (by omega) hp1 hp2 (var?_below hB0 (by kernel_rfl) hg1 HT.out) (by have := (hB0).size; omega)).mono ?_
    rintro e a1 ⟨rfl, ha1⟩
    have hA1 := (hB0).trans (ha1.mono (hB0).size)
    go_wp2_with fail
    refine (refNumber_any (bar acc) _ page _ (by omega) hp1 hp2).mono ?_
    rintro e b1 ⟨rfl, hb1⟩
    have hB1 := hA1.trans (hb1.mono hA1.size)
    clear ha1 hb1
    go_wp2_with fail
    rw [rounds_succ]
    go_wp2_with fail
    refine (number_any (bar acc) _ page _ (by omega) hp1 hp2 (var?_below hB1 (by kernel_rfl) hg1 HT.out) (by have := (hB1).size; omega)).mono ?_
    rintro e a2 ⟨rfl, ha2⟩
    have hA2 := (hB1).trans (ha2.mono (hB1).size)
    go_wp2_with fail
    refine (refNumber_any (bar acc) _ page _ (by omega) hp1 hp2).mono ?_
    rintro e b2 ⟨rfl, hb2⟩
    have hB2 := hA2.trans (hb2.mono hA2.size)
    clear ha2 hb2
    go_wp2_with fail
    rw [rounds_succ]
    go_wp2_with fail
    refine (sane_any m _ (later hB2 hw0 HM.out)).mono ?_
    rintro e w4 ⟨rfl, hb4⟩
    go_wp2
    go_ret
    exact ⟨rfl, hB2.trans (hb4.mono hB2.size)⟩

end Go.Proofs.YtlniofkgjibpjaaDoor
