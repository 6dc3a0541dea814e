/-
  frisketref02.great, digit: what they compute.
-/
import Derived.Test.YtajbpjojockgoaaDoorBytes
import Derived.Test.YtajbpjojockgoaaDoorRefSmall
namespace Go.Proofs.YtajbpjojockgoaaDoor
open Go.RowKit

theorem upper_hit (b : UInt8) (h1 : 97 ≤ b.toNat) (h2 : b.toNat ≤ 122) : ((Lib.upperB b).toNat : Int) = (b.toNat : Int) - 32 := by
  have hb : Lib.upperB b = b - 32 := by unfold Lib.upperB Lib.isLowerB; rw [if_pos (by simp [UInt8.le_iff_toNat_le]; omega)]
  rw [hb, UInt8.toNat_sub_of_le _ _ (by rw [UInt8.le_iff_toNat_le]; show 32 ≤ b.toNat; omega)]
  show ((b.toNat - 32 : Nat) : Int) = _
  omega
theorem upper_miss (b : UInt8) (h : b.toNat < 97 ∨ 122 < b.toNat) : Lib.upperB b = b := by
  unfold Lib.upperB Lib.isLowerB; rw [if_neg (by simp [UInt8.le_iff_toNat_le]; omega)]
set_option maxRecDepth 100000 in
set_option maxHeartbeats 2000000 in
theorem great_any (l : List UInt8) (w : World) (hl : l.length ≤ 100000) :
    Calls Tryd.prog 19 #[.string (bar l)] w fun e w' => e = .returned (.string (bar (Lib.toUpperA l))) ∧ Below w.heap.size w w' := by
  have cv := bytes_of
  have hfr := bytes_fresh (bar l) w
  have hnew : ∀ cap, Below w.heap.size w (w.alloc (.cells (bytesRow (bar l) cap) 5 ((bytesRow (bar l) cap).size, (bytesRow (bar l) cap).size + 1))).drew := fun cap => ((Below.refl _ _).alloc (Nat.le_refl _) _).drew
  have hsz := bar_size l
  go_enter Tryd.func19, Tryd.ntmps19
  go_wp2_with fail
  generalize grownCap w l.length 0 5 = cap
  go_loopw [4] (fun i wr => ∃ j : Nat, i = .int .i64 j ∧ j ≤ l.length ∧ BytesAt wr w.heap.size (mixL Lib.upperB j l) ∧ Below w.heap.size w wr) (fun i _ => l.length - (intOf i).toNat)
  case atStart => exact ⟨0, rfl, by omega, by rw [mixL_zero]; exact (hfr cap).drawn, hnew cap⟩
  case round =>
    obtain ⟨j, rfl, hj, hbytes, hbel⟩ := hrel
    clear hfr hnew
    by_cases hlt : j < l.length
    · have c1 := hbytes.cell j (by rw [mixL_len]; exact hlt)
      have f1 := hbytes.free j (by rw [mixL_len]; exact hlt)
      rw [mixL_at _ _ _ hlt] at c1
      obtain ⟨b, hb⟩ : ∃ b, b = l[j] := ⟨_, rfl⟩
      rw [← hb] at c1
      have hset := hbytes.stored j (Lib.upperB l[j])
      rw [mixL_set _ _ _ hlt, ← hb] at hset
      have HB := Lib.hid hb
      clear hb
      by_cases h1 : 97 ≤ b.toNat
      · by_cases h2 : b.toNat ≤ 122
        · rw [upper_hit b h1 h2] at hset
          have hw := hbel.setCell (p := ⟨w.heap.size, j, none⟩) (Nat.le_refl _) (.int .u8 ((b.toNat : Int) - 32))
          go_wp2
          go_roundw
          case rel => exact ⟨j + 1, by go_num, by omega, hset, hw⟩
          case measure => simp [intOf]; omega
        · have hk := mixL_keep Lib.upperB j l hlt (by rw [← HB.out]; exact upper_miss b (.inr (by omega)))
          have HK := Lib.hid hk
          clear hk
          go_wp2
          go_roundw
          case rel => exact ⟨j + 1, by go_num, by omega, by rw [HK.out]; exact hbytes, hbel⟩
          case measure => simp [intOf]; omega
      · have hk := mixL_keep Lib.upperB j l hlt (by rw [← HB.out]; exact upper_miss b (.inl (by omega)))
        have HK := Lib.hid hk
        clear hk
        go_wp2
        go_roundw
        case rel => exact ⟨j + 1, by go_num, by omega, by rw [HK.out]; exact hbytes, hbel⟩
        case measure => simp [intOf]; omega
    · obtain rfl : j = l.length := by omega
      rw [mixL_all] at hbytes
      have hbk := hbytes.back cap
      rw [List.length_map] at hbk
      go_wp2
      go_ret
      exact ⟨rfl, hbel⟩
end Go.Proofs.YtajbpjojockgoaaDoor
