/-
  index.Notes: what it computes. No condition.
-/
import Derived.Test.YtanekljbehhjcaaDoorCutOne
import Derived.Test.YtanekljbehhjcaaDoorPXx0
import Derived.Deep.RegionWith
import Derived.Maps.AppendAt
namespace Go.Proofs.YtanekljbehhjcaaDoor
open Go.RowKit Go.Proofs.YtanekljbehhjcaaDoorW.PrintWords Go.Proofs.YtanekljbehhjcaaDoor.PX

def preI : List UInt8 := [105, 110, 100, 101, 120, 32]
def restN (x : S28) : List UInt8 := Lib.trimPrefix x.f2.data.toList preI
def pageN (x : S28) : List UInt8 := (cutB (restN x) 32).1
/-- Whether a note is an entry. -/
def isNote (x : S28) : Bool := decide (x.f1 = 9) && (Lib.hasPrefix x.f2.data.toList preI && ((cutB (restN x) 32).2.2 && (atoiB (pageN x) && (decide (Lib.itoa (atoiN (pageN x)) = pageN x) && (decide (0 ≤ atoiN (pageN x)) && decide (atoiN (pageN x) ≤ 1000000))))))
def entryN (x : S28) : ByteArray × Int := (bar (cutB (restN x) 32).2.1, atoiN (pageN x))
/-- A run's entries. -/
def notesOf (l : List S28) : List (ByteArray × Int) := (l.filter isNote).map entryN
def cellsE (l : List (ByteArray × Int)) : List Value := l.flatMap fun x => [.string x.1, .int .i64 x.2]
theorem cellsE_len (l : List (ByteArray × Int)) : (cellsE l).length = l.length * 2 := by
  induction l with
  | nil => rfl
  | cons a l ih => simp [cellsE] at ih ⊢; omega
theorem cellsE_snoc (l : List (ByteArray × Int)) (x : ByteArray × Int) : cellsE (l ++ [x]) = cellsE l ++ [.string x.1, .int .i64 x.2] := by simp [cellsE]
theorem notesOf_yes (l : List S28) (k : Nat) (x : S28) (h : l[k]? = some x) (hn : isNote x = true) : notesOf (l.take (k + 1)) = notesOf (l.take k) ++ [entryN x] := by
  unfold notesOf; rw [List.take_add_one, h]; simp [List.filter_append, hn]
theorem notesOf_no (l : List S28) (k : Nat) (x : S28) (h : l[k]? = some x) (hn : isNote x = false) : notesOf (l.take (k + 1)) = notesOf (l.take k) := by
  unfold notesOf; rw [List.take_add_one, h]; simp [List.filter_append, hn]
theorem notesOf_le (l : List S28) (k : Nat) : (notesOf (l.take k)).length ≤ k := by
  unfold notesOf
  rw [List.length_map]
  exact Nat.le_trans (List.length_filter_le _ _) (List.length_take_le _ _)
theorem inf34 : (Tryd.prog.info? 34).map (fun i => (i.zero, i.size, i.bytes)) = some (some (.agg #[.string ⟨#[]⟩, .int .i64 0]), 2, 24) := by kernel_rfl
theorem trimPrefix_le (s p : List UInt8) : (Lib.trimPrefix s p).length ≤ s.length := by
  unfold Lib.trimPrefix; split
  · simp
  · exact Nat.le_refl _
theorem cutB_le (l : List UInt8) (b : UInt8) : (cutB l b).1.length ≤ l.length := by
  unfold cutB; split
  · simp; omega
  · exact Nat.le_refl _

theorem atoiN_range (l : List UInt8) : -9223372036854775808 ≤ atoiN l ∧ atoiN l ≤ 9223372036854775807 := by
  unfold atoiN
  cases h : Lib.atoiAll l with
  | ok v =>
    show -9223372036854775808 ≤ v ∧ v ≤ 9223372036854775807
    cases l with
    | nil => simp [Lib.atoiAll] at h
    | cons c r =>
      simp only [Lib.atoiAll] at h
      split at h
      · cases h
      · cases h
      · split at h
        · cases h
        · rename_i h1
          split at h
          · cases h
          · rename_i h2
            injection h with h
            rw [← h]
            by_cases hn : c.toNat = 45
            · rw [if_pos hn]
              have : ¬ 9223372036854775808 < _ := fun h => h2 ⟨hn, h⟩
              omega
            · rw [if_neg hn]
              have : ¬ 9223372036854775808 ≤ _ := fun h => h1 ⟨hn, h⟩
              omega
  | range =>
    show -9223372036854775808 ≤ Lib.atoiSat l ∧ Lib.atoiSat l ≤ 9223372036854775807
    unfold Lib.atoiSat
    split <;> exact ⟨by decide, by decide⟩
  | _ => exact ⟨(by decide : (-9223372036854775808 : Int) ≤ 0), (by decide : (0 : Int) ≤ 9223372036854775807)⟩
set_option maxRecDepth 100000 in
set_option maxHeartbeats 4000000 in
theorem notes_walk (A0 : Option Addr) (c0 : Nat) (l : List S28) (w : World) (hG : GW w) (hr : Kd.C k28 w A0 l.length l) (hl : l.length ≤ 1000000000) (hs : ∀ x ∈ l, x.f2.size ≤ 140737488355328) :
    Calls Tryd.prog 7 #[.slice A0 l.length c0] w fun e w' => ∃ v, e = .returned v ∧ w'.ownsRow w.heap.size 34 2 v (notesOf l).length (cellsE (notesOf l)) ∧ Below w.heap.size w w' := by
  obtain ⟨i0, hi, hz0, hz1, hz2⟩ := info_parts inf34
  go_enter Tryd.func7, Tryd.ntmps7
  go_wp2
  go_loopw [3, 15] (fun v i wr => ∃ k : Nat, k ≤ l.length ∧ i = .int .i64 k ∧ wr.ownsRow w.heap.size 34 2 v (notesOf (l.take k)).length (cellsE (notesOf (l.take k))) ∧ Below w.heap.size w wr) (fun _ i _ => l.length - (intOf i).toNat)
  case atStart => exact ⟨0, Nat.zero_le _, rfl, World.ownsRow_nil _ _ _ _, Below.refl _ _⟩
  case round =>
    obtain ⟨k, hk, rfl, hown, hb⟩ := hrel
    by_cases hlt : k < l.length
    · obtain ⟨ad, e, h0, h1, h2⟩ := at_T28 hr k (by omega) (by omega)
      cases e
      rw [Int.toNat_natCast] at h0 h1 h2
      replace h0 := (hb.cell (World.block_lt_of_cell? w _ h0)).trans h0
      replace h1 := (hb.cell (World.block_lt_of_cell? w _ h1)).trans h1
      replace h2 := (hb.cell (World.block_lt_of_cell? w _ h2)).trans h2
      have hx := List.getElem?_eq_getElem hlt
      have hrd : rd_T28 l (k : Int) = l[k] := by unfold rd_T28; rw [Int.toNat_natCast, List.getD_eq_getElem?_getD, hx]; rfl
      rw [hrd] at h0 h1 h2
      have hsx := hs _ (List.getElem_mem hlt)
      have HX := Lib.hid hx
      clear hx hrd
      generalize l[k] = x at h0 h1 h2 hsx HX
      go_wp2_with fail
      refine (Tryd.strings_CutPrefix _ _ _).mono ?_; rintro e wa ⟨rfl, rfl⟩
      go_wp2_with fail
      have hl1 : (restN x).length ≤ 140737488355328 := Nat.le_trans (trimPrefix_le _ _) (by rw [show x.f2.data.toList.length = x.f2.size from Array.length_toList]; exact hsx)
      have hl2 : (pageN x).length ≤ 140737488355328 := Nat.le_trans (cutB_le _ _) hl1
      refine (cut_one (bar (restN x)) 32 _ (by rw [bar_size]; omega)).mono ?_; rintro e wb ⟨rfl, hb2⟩
      have b2 := ((hb.alloc hb.size (.cells #[.int .i64 x.f0, .int .i64 x.f1, .string x.f2] 28))).trans (hb2.mono (by have := hb.size; simp; omega))
      have hkb : wb.cell? ⟨wr.heap.size, 1, none⟩ = some (.int .i64 x.f1) := (hb2.cell (p := ⟨wr.heap.size, 1, none⟩) (by simp)).trans (by
        have e := World.alloc_heap_new wr (.cells #[.int .i64 x.f0, .int .i64 x.f1, .string x.f2] 28)
        simp only [World.cell?, e]; rfl)
      have ownb := pw_own_below (hown.alloc _) hb2
      go_wp2_with fail
      refine (atoi_any (bar (pageN x)) _ (by rw [bar_size]; exact hl2) (hG.under b2)).mono ?_; rintro e wc ⟨ev, rfl, hev1, hev2, hb3⟩
      have b3 := b2.trans (hb3.mono b2.size)
      have hkc : wc.cell? ⟨wr.heap.size, 1, none⟩ = some (.int .i64 x.f1) := (hb3.cell (World.block_lt_of_cell? _ _ hkb)).trans hkb
      have ownc := pw_own_below ownb hb3
      have hrange := atoiN_range (pageN x)
      have hG3 := hG.under b3
      have hyes : isNote x = true → notesOf (l.take (k + 1)) = notesOf (l.take k) ++ [entryN x] := notesOf_yes l k x HX.out
      have hno : isNote x = false → notesOf (l.take (k + 1)) = notesOf (l.take k) := notesOf_no l k x HX.out
      have hN : isNote x = (decide (x.f1 = 9) && (Lib.hasPrefix x.f2.data.toList preI && ((cutB (restN x) 32).2.2 && (atoiB (pageN x) && (decide (Lib.itoa (atoiN (pageN x)) = pageN x) && (decide (0 ≤ atoiN (pageN x)) && decide (atoiN (pageN x) ≤ 1000000))))))) := rfl
      have hE : entryN x = (bar (cutB (restN x) 32).2.1, atoiN (pageN x)) := rfl
      have hp1 : (cutB (bar (restN x)).data.toList 32).1 = pageN x := rfl
      have hp2 : cutB (bar (restN x)).data.toList 32 = cutB (restN x) 32 := rfl
      have hp3 : (bar (pageN x)).data.toList = pageN x := rfl
      have hp4 : Lib.hasPrefix x.f2.data.toList (ByteArray.mk #[105, 110, 100, 101, 120, 32]).data.toList = Lib.hasPrefix x.f2.data.toList preI := rfl
      rw [hp3] at hev1 hev2
      rw [hp2, hp3, hp4, show (cutB (restN x) 32).1 = pageN x from rfl]
      have HY := Lib.hid hyes
      have HO := Lib.hid hno
      have HE := Lib.hid hE
      have HN := Lib.hid hN
      clear hyes hno hN hE hp1 hp2 hp3 hp4 hb2 hb3 b2 ownb hkb h0 h1 h2 hown HX hr hs
      generalize Lib.hasPrefix x.f2.data.toList preI = hp at HN ⊢
      generalize bar (cutB (restN x) 32).2.1 = tx at HE ⊢
      generalize (cutB (restN x) 32).2.2 = two at HN ⊢
      generalize atoiB (pageN x) = ok at HN hev1 hev2
      generalize atoiN (pageN x) = n at HN HE hrange ⊢
      have hz3 := b3.size
      have hitoa := itoa_any n wc hrange.1 hrange.2 hG3
      by_cases c1 : x.f1 = 9
      · have c1b : (x.f1 == 9) = true := beq_iff_eq.2 c1
        cases hp with
        | false =>
          have HF := Lib.hid (HO.out (by rw [HN.out]; simp))
          clear HO HY HN HE hitoa
          go_wp2_with fail
          go_roundw
          case rel => exact ⟨k + 1, by omega, by go_num, by rw [HF.out]; exact ownc, b3⟩
          case measure => simp [intOf]; omega
        | true =>
          cases two with
          | false =>
            have HF := Lib.hid (HO.out (by rw [HN.out]; simp))
            clear HO HY HN HE hitoa
            go_wp2_with fail
            go_roundw
            case rel => exact ⟨k + 1, by omega, by go_num, by rw [HF.out]; exact ownc, b3⟩
            case measure => simp [intOf]; omega
          | true =>
            cases ok with
            | false =>
              obtain ⟨te, pe, rfl⟩ := hev2 rfl
              have HF := Lib.hid (HO.out (by rw [HN.out]; simp))
              clear HO HY HN HE hitoa
              go_wp2_with fail
              go_roundw
              case rel => exact ⟨k + 1, by omega, by go_num, by rw [HF.out]; exact ownc, b3⟩
              case measure => simp [intOf]; omega
            | true =>
              obtain rfl := hev1 rfl
              by_cases c5 : Lib.itoa n = pageN x
              · have c5b : ((bar (Lib.itoa n)).toList == (bar (pageN x)).toList) = true := by rw [bar_toList, bar_toList]; exact beq_iff_eq.2 c5
                by_cases c6 : 0 ≤ n
                · by_cases c7 : n ≤ 1000000
                  · have HF := Lib.hid (HY.out (by rw [HN.out]; simp [c1, c5, c6, c7]))
                    have hnl := notesOf_le l k
                    rw [HE.out] at HF
                    clear HO HY HN HE c1 c5
                    go_wp2_with fail
                    refine hitoa.mono ?_; rintro e wd ⟨rfl, hb4⟩
                    have b4 := b3.trans (hb4.mono hz3)
                    have ownd := pw_own_below ownc hb4
                    have hz4 := b4.size
                    clear hitoa hb4 ownc b3
                    go_wp2_with (at_builtin; refine wpList_append_own _ rfl _ _ 29 rfl w.heap.size 34 i0 (.agg #[.string ⟨#[]⟩, .int .i64 0]) 2 24 Tryd.underlying29 hi hz0 hz1 hz2 rfl (by decide) _ _ _ rfl (ownd.alloc _) ⟨wd.heap.size, 0, none⟩ 1 1 [.string tx, .int .i64 n] rfl rfl (World.news_of_block (cs := #[.string tx, .int .i64 n]) (t := 34) (fr := (0, 0)) (heap_alloc_new wd _)) (by simp [Value.oneCell']) (by unfold maxLen; omega) (by omega) (by simp; omega) ?_; intro v' w5 hown' hgrow _)
                    go_roundw
                    case rel => exact ⟨k + 1, by omega, by go_num, by rw [HF.out, List.length_append, cellsE_snoc]; exact hown', (b4.alloc hz4 _).grown hgrow (by simp; omega) (fun y hy => own_base ownd y hy)⟩
                    case measure => simp [intOf]; omega
                  · have hd := decide_eq_false c7
                    have HD := Lib.hid hd
                    clear hd
                    have HF := Lib.hid (HO.out (by rw [HN.out]; simp [HD.out]))
                    clear HO HY HN HE
                    go_wp2_with fail
                    refine hitoa.mono ?_; rintro e wd ⟨rfl, hb4⟩
                    have b4 := b3.trans (hb4.mono hz3)
                    have ownd := pw_own_below ownc hb4
                    clear hitoa hb4
                    go_wp2_with fail
                    go_roundw
                    case rel => exact ⟨k + 1, by omega, by go_num, by rw [HF.out]; exact ownd, b4⟩
                    case measure => simp [intOf]; omega
                · have HD := Lib.hid (show decide (0 ≤ n) = false from decide_eq_false c6)
                  have HF := Lib.hid (HO.out (by rw [HN.out]; simp [HD.out]))
                  clear HO HY HN HE
                  go_wp2_with fail
                  refine hitoa.mono ?_; rintro e wd ⟨rfl, hb4⟩
                  have b4 := b3.trans (hb4.mono hz3)
                  have ownd := pw_own_below ownc hb4
                  clear hitoa hb4
                  go_wp2_with fail
                  go_roundw
                  case rel => exact ⟨k + 1, by omega, by go_num, by rw [HF.out]; exact ownd, b4⟩
                  case measure => simp [intOf]; omega
              · have c5b : ((bar (Lib.itoa n)).toList == (bar (pageN x)).toList) = false := by rw [bar_toList, bar_toList]; exact beq_eq_false_iff_ne.2 c5
                have HD := Lib.hid (show decide (Lib.itoa n = pageN x) = false from decide_eq_false c5)
                clear c5
                have HF := Lib.hid (HO.out (by rw [HN.out]; simp [HD.out]))
                clear HO HY HN HE
                go_wp2_with fail
                refine hitoa.mono ?_; rintro e wd ⟨rfl, hb4⟩
                have b4 := b3.trans (hb4.mono hz3)
                have ownd := pw_own_below ownc hb4
                clear hitoa hb4
                go_wp2_with fail
                go_roundw
                case rel => exact ⟨k + 1, by omega, by go_num, by rw [HF.out]; exact ownd, b4⟩
                case measure => simp [intOf]; omega
      · have c1b : (x.f1 == 9) = false := beq_eq_false_iff_ne.2 c1
        have HD := Lib.hid (show decide (x.f1 = 9) = false from decide_eq_false c1)
        clear c1
        have HF := Lib.hid (HO.out (by rw [HN.out]; simp [HD.out]))
        clear HO HY HN HE hitoa
        go_wp2_with fail
        go_roundw
        case rel => exact ⟨k + 1, by omega, by go_num, by rw [HF.out]; exact ownc, b3⟩
        case measure => simp [intOf]; omega
    · obtain rfl : k = l.length := by omega
      rw [List.take_length] at hown
      go_wp2_with fail
      go_ret
      exact ⟨_, rfl, hown, hb⟩
end Go.Proofs.YtanekljbehhjcaaDoor
