/-
  frisketref02.Roman: what it computes.
-/
import Derived.Test.YtajbpjojockgoaaDoorReadPlain
import Derived.Test.YtajbpjojockgoaaDoorRead
import Derived.Test.YtajbpjojockgoaaDoorRefDigit
import Derived.Test.YtajbpjojockgoaaDoorRefRoman
import Derived.Deep.RegionHeld3
namespace Go.Proofs.YtajbpjojockgoaaDoor
open Go.RowKit

theorem lower_hit (b : UInt8) (h1 : 65 ≤ b.toNat) (h2 : b.toNat ≤ 90) : ((Lib.lowerB b).toNat : Int) = (b.toNat : Int) + 32 := by
  have hb : Lib.lowerB b = b + 32 := by unfold Lib.lowerB Lib.isUpperB; rw [if_pos (by simp [UInt8.le_iff_toNat_le]; omega)]
  rw [hb, UInt8.toNat_add]
  show (((b.toNat + 32) % 256 : Nat) : Int) = _
  omega
theorem lower_miss (b : UInt8) (h : b.toNat < 65 ∨ 90 < b.toNat) : Lib.lowerB b = b := by
  unfold Lib.lowerB Lib.isUpperB; rw [if_neg (by simp [UInt8.le_iff_toNat_le]; omega)]
def allW (l : List UInt8) : Bool := l.all (fun b => decide (0 < worth b))
theorem allW_step (l : List UInt8) (j : Nat) (h : j < l.length) (h1 : allW (l.take j) = true) (h2 : 0 < worth l[j]) : allW (l.take (j + 1)) = true := by
  unfold allW at h1 ⊢
  rw [List.take_add_one, List.getElem?_eq_getElem h, List.all_append, h1]
  simp [h2]
theorem allW_not (l : List UInt8) (j : Nat) (h : j < l.length) (h2 : worth l[j] = 0) : allW l = false := by
  unfold allW
  cases ha : l.all (fun b => decide (0 < worth b)) with
  | false => rfl
  | true =>
    have := of_decide_eq_true (List.all_eq_true.1 ha l[j] (List.getElem_mem h))
    omega
theorem held_bytes {w W w5 : World} {l : List UInt8} {E : World → Prop} (hT : ∀ W, BytesAt W w.heap.size l → E W) (hb : Below W.heap.size W w5)
    (h : E W ∧ BytesAt W w.heap.size l ∧ Below w.heap.size w W) : E w5 ∧ BytesAt w5 w.heap.size l ∧ Below w.heap.size w w5 :=
  ⟨hT _ (h.2.1.later hb), h.2.1.later hb, belowThen h.2.2 hb⟩
/-- What the second half gives. -/
def rfEnd (l : List UInt8) : Int × Int :=
  if allW l = false then (0, 4)
  else if 1 ≤ romV l ∧ romV l ≤ 39999 ∧ romL (romV l).toNat = l then (romV l, 0) else (0, 4)

set_option maxRecDepth 100000 in
set_option maxHeartbeats 4000000 in
theorem refRead_walk (s l : List UInt8) (w : World) (r : Int × Int) (hl : Lib.toLowerA s = l) (hr : r = rfOut s) (hs : s.length ≤ 1000) :
    Calls Tryd.prog 10 #[.string (bar s)] w fun e w' => e = .returned (.tuple #[.int .i64 r.1, .int .i64 r.2]) ∧ Below w.heap.size w w' := by
  have hlen : l.length = s.length := by rw [← hl, lower_len]
  unfold rfOut at hr
  rw [hl] at hr
  have HR := Lib.hid hr
  clear hr
  have HL := Lib.hid hl
  clear hl
  have HN := Lib.hid hlen
  have cv := bytes_of
  have hfr := bytes_fresh (bar s) w
  have hnew : ∀ cap, Below w.heap.size w (w.alloc (.cells (bytesRow (bar s) cap) 5 ((bytesRow (bar s) cap).size, (bytesRow (bar s) cap).size + 1))).drew := fun cap => ((Below.refl _ _).alloc (Nat.le_refl _) _).drew
  have hsz := bar_size s
  clear hlen
  go_enter Tryd.func10, Tryd.ntmps10
  go_wp2_with fail
  generalize grownCap w s.length 0 5 = cap
  go_loopw [5] (fun i wr => ∃ j : Nat, i = .int .i64 j ∧ j ≤ s.length ∧ BytesAt wr w.heap.size (mixL Lib.lowerB j s) ∧ Below w.heap.size w wr) (fun i _ => s.length - (intOf i).toNat)
  case atStart => exact ⟨0, rfl, by omega, by rw [mixL_zero]; exact (hfr cap).drawn, hnew cap⟩
  case round =>
    obtain ⟨j, rfl, hj, hbytes, hbel⟩ := hrel
    clear hfr hnew
    by_cases hlt : j < s.length
    · have c1 := hbytes.cell j (by rw [mixL_len]; exact hlt)
      have f1 := hbytes.free j (by rw [mixL_len]; exact hlt)
      rw [mixL_at _ _ _ hlt] at c1
      obtain ⟨b, hb⟩ : ∃ b, b = s[j] := ⟨_, rfl⟩
      rw [← hb] at c1
      have hset := hbytes.stored j (Lib.lowerB s[j])
      rw [mixL_set _ _ _ hlt, ← hb] at hset
      have HB := Lib.hid hb
      clear hb
      by_cases h1 : 65 ≤ b.toNat
      · by_cases h2 : b.toNat ≤ 90
        · rw [lower_hit b h1 h2] at hset
          have hw := hbel.setCell (p := ⟨w.heap.size, j, none⟩) (Nat.le_refl _) (.int .u8 ((b.toNat : Int) + 32))
          go_wp2
          go_roundw
          case rel => exact ⟨j + 1, by go_num, by omega, hset, hw⟩
          case measure => simp [intOf]; omega
        · have hk := mixL_keep Lib.lowerB j s hlt (by rw [← HB.out]; exact lower_miss b (.inr (by omega)))
          have HK := Lib.hid hk
          clear hk
          go_wp2
          go_roundw
          case rel => exact ⟨j + 1, by go_num, by omega, by rw [HK.out]; exact hbytes, hbel⟩
          case measure => simp [intOf]; omega
      · have hk := mixL_keep Lib.lowerB j s hlt (by rw [← HB.out]; exact lower_miss b (.inl (by omega)))
        have HK := Lib.hid hk
        clear hk
        go_wp2
        go_roundw
        case rel => exact ⟨j + 1, by go_num, by omega, by rw [HK.out]; exact hbytes, hbel⟩
        case measure => simp [intOf]; omega
    · obtain rfl : j = s.length := by omega
      rw [mixL_all] at hbytes
      change BytesAt wr w.heap.size (Lib.toLowerA s) at hbytes
      rw [HL.out] at hbytes
      have hbk := hbytes.back cap
      rw [HN.out] at hbk
      clear hlt
      by_cases k0 : s = []
      · have E := Lib.hid (show r = (0, 4) from by rw [HR.out, if_pos (.inl k0)])
        have q0 : ((bar s).toList == []) = true := by rw [toList_bar]; simpa using k0
        clear k0
        go_wp2_with fail
        go_ret2
        exact ⟨by rw [E.out]; rfl, hbel⟩
      have q0 : ((bar s).toList == []) = false := by rw [toList_bar]; simpa using k0
      have hg : ∀ W, Calls Tryd.prog 19 #[.string (bar l)] W fun e w' => e = .returned (.string (bar (Lib.toUpperA l))) ∧ Below W.heap.size W w' := fun W => great_any l W (by rw [HN.out]; omega)
      -- the two roads
      by_cases k1 : s = l
      · have HK := Lib.hid (show r = rfEnd l from by rw [HR.out, if_neg (by rintro (h | h); exact k0 h; exact h.1 k1)]; rfl)
        have q1 : ((bar s).toList == (bar l).toList) = true := by rw [toList_bar, toList_bar]; simpa using k1
        clear k0 k1 HR
        go_wp2_with fail
        go_loopw [6, 7] (fun v i x => ∃ (j : Nat) (n : Int), v = .int .i64 n ∧ i = .int .i64 j ∧ j ≤ s.length ∧ RdInv l j n ∧ allW (l.take j) = true ∧ BytesAt x w.heap.size l ∧ Below w.heap.size w x) (fun _ i _ => s.length - (intOf i).toNat)
        case atStart => exact ⟨0, 0, rfl, rfl, by omega, .first l, rfl, hbytes, hbel⟩
        case round =>
          clear hbytes hbel
          obtain ⟨j, n, rfl, rfl, hj, hinv, hall, hby, hbl⟩ := hrel
          have hn1 := hinv.2.1
          have hn2 := hinv.2.2
          have HI := Lib.hid hinv
          have HALL := Lib.hid hall
          clear hinv hall
          by_cases hlt : j < s.length
          · have hjl : j < l.length := by rw [HN.out]; exact hlt
            have c1 := hby.cell j hjl
            obtain ⟨a, ha⟩ : ∃ a, l[j] = a := ⟨_, rfl⟩
            rw [ha] at c1
            have HA := Lib.hid (show l[j]? = some a from by rw [List.getElem?_eq_getElem hjl, ha])
            have HA2 := Lib.hid ha
            clear ha
            have hwa := worth_le a
            by_cases h0 : worth a = 0
            · have E := Lib.hid (show r = (0, 4) from by rw [HK.out, rfEnd, if_pos (allW_not l j hjl (by rw [HA2.out]; exact h0))])
              go_wp2_with fail
              refine (digit_any a _).mono ?_; rintro e w3 ⟨rfl, hb3⟩
              go_wp2_with fail
              go_ret2
              exact ⟨by rw [E.out]; rfl, belowThen hbl hb3⟩
            · have hall2 := Lib.hid (allW_step l j hjl HALL.out (by rw [HA2.out]; omega))
              have h0' : 0 < worth a := by omega
              obtain ⟨x, hx⟩ : ∃ x, worth a = x := ⟨_, rfl⟩
              have hd := digit_any a
              rw [hx] at hd hwa h0'
              have HX := Lib.hid hx
              clear hx h0
              by_cases hlt2 : j + 1 < s.length
              · have hjl2 : j + 1 < l.length := by rw [HN.out]; exact hlt2
                go_wp2_with fail
                refine (hd _).mono ?_; rintro e w3 ⟨rfl, hb3⟩
                have hby3 := hby.later hb3
                have hbl3 := belowThen hbl hb3
                clear hby hbl hb3 c1
                have c2 := hby3.cell (j + 1) hjl2
                obtain ⟨b, hb⟩ : ∃ b, l[j + 1] = b := ⟨_, rfl⟩
                rw [hb] at c2
                have hst := HI.out.step a b HA.out (by rw [List.getElem?_eq_getElem hjl2, hb])
                clear hb
                have hwb := worth_le b
                obtain ⟨y, hy⟩ : ∃ y, worth b = y := ⟨_, rfl⟩
                have hd2 := digit_any b
                rw [hy] at hd2 hwb
                rw [HX.out, hy] at hst
                clear hy
                by_cases hw : x < y
                · rw [if_pos hw] at hst
                  have hst := Lib.hid hst
                  go_wp2_with fail
                  refine (hd2 _).mono ?_; rintro e w4 ⟨rfl, hb4⟩
                  have hby4 := hby3.later hb4
                  have hbl4 := belowThen hbl3 hb4
                  go_wp2_with fail
                  go_roundw
                  case rel => exact ⟨j + 1, _, rfl, by go_num, by omega, hst.out, hall2.out, hby4, hbl4⟩
                  case measure => simp [intOf]; omega
                · rw [if_neg hw] at hst
                  have hst := Lib.hid hst
                  go_wp2_with fail
                  refine (hd2 _).mono ?_; rintro e w4 ⟨rfl, hb4⟩
                  have hby4 := hby3.later hb4
                  have hbl4 := belowThen hbl3 hb4
                  go_wp2_with fail
                  go_roundw
                  case rel => exact ⟨j + 1, _, rfl, by go_num, by omega, hst.out, hall2.out, hby4, hbl4⟩
                  case measure => simp [intOf]; omega
              · have hst := HI.out.final a HA.out (by rw [HN.out]; omega)
                rw [HX.out] at hst
                have hst := Lib.hid hst
                go_wp2_with fail
                refine (hd _).mono ?_; rintro e w3 ⟨rfl, hb3⟩
                have hby3 := hby.later hb3
                have hbl3 := belowThen hbl hb3
                go_wp2_with fail
                go_roundw
                case rel => exact ⟨j + 1, _, rfl, by go_num, by omega, hst.out, hall2.out, hby3, hbl3⟩
                case measure => simp [intOf]; omega
          · have hjl : j = l.length := by rw [HN.out]; omega
            have hv : n = romV l := by
              rw [hjl] at HI
              exact HI.out.last
            have hal : allW l = true := by
              have := HALL.out
              rwa [hjl, List.take_length] at this
            have hrr := HK.out
            unfold rfEnd at hrr
            rw [← hv, if_neg (by rw [hal]; decide)] at hrr
            have HRR := Lib.hid hrr
            clear hrr hv hal hjl HI HALL HK
            have hbk := hby.back cap
            rw [HN.out] at hbk
            by_cases h1 : n < 1
            · have E := Lib.hid (show r = (0, 4) from by rw [HRR.out, if_neg (by omega)])
              have d1 : decide (n < 1) = true := decide_eq_true h1
              clear h1
              go_wp2_with fail
              go_quiet (fail)
              go_wp2_with fail
              go_ret2
              exact ⟨by rw [E.out]; rfl, belowN hbl _⟩
            have d1 : decide (n < 1) = false := decide_eq_false h1
            by_cases h2 : 39999 < n
            · have E := Lib.hid (show r = (0, 4) from by rw [HRR.out, if_neg (by omega)])
              have d2 : decide (39999 < n) = true := decide_eq_true h2
              clear h1 h2
              go_wp2_with fail
              go_quiet (fail)
              go_wp2_with fail
              go_ret2
              exact ⟨by rw [E.out]; rfl, belowN hbl _⟩
            have d2 : decide (39999 < n) = false := decide_eq_false h2
            have hR : ∀ W, Calls Tryd.prog 17 #[.int .i64 n] W fun e w' => e = .returned (.string (bar (romL n.toNat))) ∧ Below W.heap.size W w' := fun W => by
              have h := refRoman_any n.toNat W (by omega)
              rwa [show ((n.toNat : Nat) : Int) = n by omega] at h
            have hT : ∀ W, BytesAt W w.heap.size l → (convert 38 9 (.slice (some ⟨w.heap.size, 0, none⟩) s.length cap)).run Tryd.prog W = .ok (.string (bar l)) W := fun W h => by
              have := h.back cap
              rwa [HN.out] at this
            by_cases k5 : romL n.toNat = l
            · have E := Lib.hid (show r = (n, 0) from by rw [HRR.out, if_pos ⟨by omega, by omega, k5⟩])
              rw [k5] at hR
              clear h1 h2 k5 HRR
              go_wp2_with fail
              go_region_held3 (fun W => (convert 38 9 (.slice (some ⟨w.heap.size, 0, none⟩) s.length cap)).run Tryd.prog W = .ok (.string (bar l)) W ∧ BytesAt W w.heap.size l ∧ Below w.heap.size w W) (first | exact ⟨hT _ (by exact hby), by exact hby, hbl.drew⟩ | exact hs) (first | (go_at_call 17; refine (hR _).mono ?_; rintro e w5 ⟨rfl, hb5⟩; have hs := held_bytes hT hb5 (by assumption)))
              obtain ⟨m0, m1, hB⟩ := hs
              clear hT hbk
              go_wp2_with fail
              go_ret2
              exact ⟨by rw [E.out]; rfl, hB⟩
            · have E := Lib.hid (show r = (0, 4) from by rw [HRR.out, if_neg (fun h => k5 h.2.2)])
              have q5 : ((bar (romL n.toNat)).toList == (bar l).toList) = false := by rw [toList_bar, toList_bar]; simpa using k5
              generalize bar (romL n.toNat) = z at hR q5
              clear h1 h2 k5 HRR
              go_wp2_with fail
              go_region_held3 (fun W => (convert 38 9 (.slice (some ⟨w.heap.size, 0, none⟩) s.length cap)).run Tryd.prog W = .ok (.string (bar l)) W ∧ BytesAt W w.heap.size l ∧ Below w.heap.size w W) (first | exact ⟨hT _ (by exact hby), by exact hby, hbl.drew⟩ | exact hs) (first | (go_at_call 17; refine (hR _).mono ?_; rintro e w5 ⟨rfl, hb5⟩; have hs := held_bytes hT hb5 (by assumption)))
              obtain ⟨m0, m1, hB⟩ := hs
              clear hT hbk
              go_wp2_with fail
              go_ret2
              exact ⟨by rw [E.out]; rfl, hB⟩
      by_cases k2 : s = Lib.toUpperA l
      · have HK := Lib.hid (show r = rfEnd l from by rw [HR.out, if_neg (by rintro (h | h); exact k0 h; exact h.2 k2)]; rfl)
        have q1 : ((bar s).toList == (bar l).toList) = false := by rw [toList_bar, toList_bar]; simpa using k1
        have q2 : ((bar s).toList == (bar (Lib.toUpperA l)).toList) = true := by rw [toList_bar, toList_bar]; simpa using k2
        clear k0 k1 k2 HR
        go_wp2_with fail
        refine (hg _).mono ?_; rintro e w2 ⟨rfl, hb2⟩
        have hbytes := hbytes.later hb2
        have hbel := belowThen hbel hb2
        go_wp2_with fail
        go_loopw [6, 7] (fun v i x => ∃ (j : Nat) (n : Int), v = .int .i64 n ∧ i = .int .i64 j ∧ j ≤ s.length ∧ RdInv l j n ∧ allW (l.take j) = true ∧ BytesAt x w.heap.size l ∧ Below w.heap.size w x) (fun _ i _ => s.length - (intOf i).toNat)
        case atStart => exact ⟨0, 0, rfl, rfl, by omega, .first l, rfl, hbytes, hbel⟩
        case round =>
          clear hbytes hbel
          obtain ⟨j, n, rfl, rfl, hj, hinv, hall, hby, hbl⟩ := hrel
          have hn1 := hinv.2.1
          have hn2 := hinv.2.2
          have HI := Lib.hid hinv
          have HALL := Lib.hid hall
          clear hinv hall
          by_cases hlt : j < s.length
          · have hjl : j < l.length := by rw [HN.out]; exact hlt
            have c1 := hby.cell j hjl
            obtain ⟨a, ha⟩ : ∃ a, l[j] = a := ⟨_, rfl⟩
            rw [ha] at c1
            have HA := Lib.hid (show l[j]? = some a from by rw [List.getElem?_eq_getElem hjl, ha])
            have HA2 := Lib.hid ha
            clear ha
            have hwa := worth_le a
            by_cases h0 : worth a = 0
            · have E := Lib.hid (show r = (0, 4) from by rw [HK.out, rfEnd, if_pos (allW_not l j hjl (by rw [HA2.out]; exact h0))])
              go_wp2_with fail
              refine (digit_any a _).mono ?_; rintro e w3 ⟨rfl, hb3⟩
              go_wp2_with fail
              go_ret2
              exact ⟨by rw [E.out]; rfl, belowThen hbl hb3⟩
            · have hall2 := Lib.hid (allW_step l j hjl HALL.out (by rw [HA2.out]; omega))
              have h0' : 0 < worth a := by omega
              obtain ⟨x, hx⟩ : ∃ x, worth a = x := ⟨_, rfl⟩
              have hd := digit_any a
              rw [hx] at hd hwa h0'
              have HX := Lib.hid hx
              clear hx h0
              by_cases hlt2 : j + 1 < s.length
              · have hjl2 : j + 1 < l.length := by rw [HN.out]; exact hlt2
                go_wp2_with fail
                refine (hd _).mono ?_; rintro e w3 ⟨rfl, hb3⟩
                have hby3 := hby.later hb3
                have hbl3 := belowThen hbl hb3
                clear hby hbl hb3 c1
                have c2 := hby3.cell (j + 1) hjl2
                obtain ⟨b, hb⟩ : ∃ b, l[j + 1] = b := ⟨_, rfl⟩
                rw [hb] at c2
                have hst := HI.out.step a b HA.out (by rw [List.getElem?_eq_getElem hjl2, hb])
                clear hb
                have hwb := worth_le b
                obtain ⟨y, hy⟩ : ∃ y, worth b = y := ⟨_, rfl⟩
                have hd2 := digit_any b
                rw [hy] at hd2 hwb
                rw [HX.out, hy] at hst
                clear hy
                by_cases hw : x < y
                · rw [if_pos hw] at hst
                  have hst := Lib.hid hst
                  go_wp2_with fail
                  refine (hd2 _).mono ?_; rintro e w4 ⟨rfl, hb4⟩
                  have hby4 := hby3.later hb4
                  have hbl4 := belowThen hbl3 hb4
                  go_wp2_with fail
                  go_roundw
                  case rel => exact ⟨j + 1, _, rfl, by go_num, by omega, hst.out, hall2.out, hby4, hbl4⟩
                  case measure => simp [intOf]; omega
                · rw [if_neg hw] at hst
                  have hst := Lib.hid hst
                  go_wp2_with fail
                  refine (hd2 _).mono ?_; rintro e w4 ⟨rfl, hb4⟩
                  have hby4 := hby3.later hb4
                  have hbl4 := belowThen hbl3 hb4
                  go_wp2_with fail
                  go_roundw
                  case rel => exact ⟨j + 1, _, rfl, by go_num, by omega, hst.out, hall2.out, hby4, hbl4⟩
                  case measure => simp [intOf]; omega
              · have hst := HI.out.final a HA.out (by rw [HN.out]; omega)
                rw [HX.out] at hst
                have hst := Lib.hid hst
                go_wp2_with fail
                refine (hd _).mono ?_; rintro e w3 ⟨rfl, hb3⟩
                have hby3 := hby.later hb3
                have hbl3 := belowThen hbl hb3
                go_wp2_with fail
                go_roundw
                case rel => exact ⟨j + 1, _, rfl, by go_num, by omega, hst.out, hall2.out, hby3, hbl3⟩
                case measure => simp [intOf]; omega
          · have hjl : j = l.length := by rw [HN.out]; omega
            have hv : n = romV l := by
              rw [hjl] at HI
              exact HI.out.last
            have hal : allW l = true := by
              have := HALL.out
              rwa [hjl, List.take_length] at this
            have hrr := HK.out
            unfold rfEnd at hrr
            rw [← hv, if_neg (by rw [hal]; decide)] at hrr
            have HRR := Lib.hid hrr
            clear hrr hv hal hjl HI HALL HK
            have hbk := hby.back cap
            rw [HN.out] at hbk
            by_cases h1 : n < 1
            · have E := Lib.hid (show r = (0, 4) from by rw [HRR.out, if_neg (by omega)])
              have d1 : decide (n < 1) = true := decide_eq_true h1
              clear h1
              go_wp2_with fail
              go_quiet (fail)
              go_wp2_with fail
              go_ret2
              exact ⟨by rw [E.out]; rfl, belowN hbl _⟩
            have d1 : decide (n < 1) = false := decide_eq_false h1
            by_cases h2 : 39999 < n
            · have E := Lib.hid (show r = (0, 4) from by rw [HRR.out, if_neg (by omega)])
              have d2 : decide (39999 < n) = true := decide_eq_true h2
              clear h1 h2
              go_wp2_with fail
              go_quiet (fail)
              go_wp2_with fail
              go_ret2
              exact ⟨by rw [E.out]; rfl, belowN hbl _⟩
            have d2 : decide (39999 < n) = false := decide_eq_false h2
            have hR : ∀ W, Calls Tryd.prog 17 #[.int .i64 n] W fun e w' => e = .returned (.string (bar (romL n.toNat))) ∧ Below W.heap.size W w' := fun W => by
              have h := refRoman_any n.toNat W (by omega)
              rwa [show ((n.toNat : Nat) : Int) = n by omega] at h
            have hT : ∀ W, BytesAt W w.heap.size l → (convert 38 9 (.slice (some ⟨w.heap.size, 0, none⟩) s.length cap)).run Tryd.prog W = .ok (.string (bar l)) W := fun W h => by
              have := h.back cap
              rwa [HN.out] at this
            by_cases k5 : romL n.toNat = l
            · have E := Lib.hid (show r = (n, 0) from by rw [HRR.out, if_pos ⟨by omega, by omega, k5⟩])
              rw [k5] at hR
              clear h1 h2 k5 HRR
              go_wp2_with fail
              go_region_held3 (fun W => (convert 38 9 (.slice (some ⟨w.heap.size, 0, none⟩) s.length cap)).run Tryd.prog W = .ok (.string (bar l)) W ∧ BytesAt W w.heap.size l ∧ Below w.heap.size w W) (first | exact ⟨hT _ (by exact hby), by exact hby, hbl.drew⟩ | exact hs) (first | (go_at_call 17; refine (hR _).mono ?_; rintro e w5 ⟨rfl, hb5⟩; have hs := held_bytes hT hb5 (by assumption)))
              obtain ⟨m0, m1, hB⟩ := hs
              clear hT hbk
              go_wp2_with fail
              go_ret2
              exact ⟨by rw [E.out]; rfl, hB⟩
            · have E := Lib.hid (show r = (0, 4) from by rw [HRR.out, if_neg (fun h => k5 h.2.2)])
              have q5 : ((bar (romL n.toNat)).toList == (bar l).toList) = false := by rw [toList_bar, toList_bar]; simpa using k5
              generalize bar (romL n.toNat) = z at hR q5
              clear h1 h2 k5 HRR
              go_wp2_with fail
              go_region_held3 (fun W => (convert 38 9 (.slice (some ⟨w.heap.size, 0, none⟩) s.length cap)).run Tryd.prog W = .ok (.string (bar l)) W ∧ BytesAt W w.heap.size l ∧ Below w.heap.size w W) (first | exact ⟨hT _ (by exact hby), by exact hby, hbl.drew⟩ | exact hs) (first | (go_at_call 17; refine (hR _).mono ?_; rintro e w5 ⟨rfl, hb5⟩; have hs := held_bytes hT hb5 (by assumption)))
              obtain ⟨m0, m1, hB⟩ := hs
              clear hT hbk
              go_wp2_with fail
              go_ret2
              exact ⟨by rw [E.out]; rfl, hB⟩
      have E := Lib.hid (show r = (0, 4) from by rw [HR.out, if_pos (.inr ⟨k1, k2⟩)])
      have q1 : ((bar s).toList == (bar l).toList) = false := by rw [toList_bar, toList_bar]; simpa using k1
      have q2 : ((bar s).toList == (bar (Lib.toUpperA l)).toList) = false := by rw [toList_bar, toList_bar]; simpa using k2
      clear k0 k1 k2 HR
      go_wp2_with fail
      refine (hg _).mono ?_; rintro e w2 ⟨rfl, hb2⟩
      go_wp2_with fail
      go_ret2
      exact ⟨by rw [E.out]; rfl, belowThen hbel hb2⟩
end Go.Proofs.YtajbpjojockgoaaDoor
