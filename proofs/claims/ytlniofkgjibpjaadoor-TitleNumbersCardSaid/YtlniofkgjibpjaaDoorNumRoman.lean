/-
  title.Roman, frisketref13.Roman: what they compute; TitleNumbers is true.
-/
import Derived.Test.YtlniofkgjibpjaaDoorWriteForm
import Derived.Test.YtlniofkgjibpjaaDoorRefRomanPlain
import Derived.Test.YtlniofkgjibpjaaDoorNumber
import Derived.Test.YtlniofkgjibpjaaDoorLawPlaces
import Derived.Test.YtlniofkgjibpjaaDoorLawChars
namespace Go.Proofs.YtlniofkgjibpjaaDoor.Reg
open Go.RowKit

def pageL (page : Int) : List UInt8 := if 0 < page ∧ page < 40000 then romL page.toNat else Lib.itoa page
theorem itoa_nat (n : Nat) : Lib.itoa (n : Int) = Lib.decDigits n := by unfold Lib.itoa; rw [if_neg (by omega)]; rfl
set_option maxRecDepth 100000 in
set_option maxHeartbeats 2000000 in
theorem roman_out (page : Int) (w : World) (d : ByteArray) (x : Value) (e0 : Int) (h : e0 ≠ 0 ∨ (e0 = 0 ∧ ¬ 0 < page))
    (hW : Calls Tryd.prog 32 #[.int .i64 page, .string ⟨#[105]⟩] w fun e w' => e = .returned (.tuple #[x, .int .i64 e0]) ∧ Below w.heap.size w w')
    (hI : ∀ w', Below w.heap.size w w' → Calls Tryd.prog 29 #[.int .i64 page] w' fun e w'' => e = .returned (.string d) ∧ Below w'.heap.size w' w'') :
    Calls Tryd.prog 18 #[.int .i64 page] w fun e w' => e = .returned (.string d) ∧ Below w.heap.size w w' := by
  rcases h with h | ⟨rfl, h⟩
  · have h' : (e0 == 0) = false := by simpa using h
    clear h
    go_enter Tryd.func18, Tryd.ntmps18
    go_wp2_with fail
    refine hW.mono ?_; rintro e w1 ⟨rfl, hb⟩
    go_wp2_with fail
    refine (hI _ hb).mono ?_; rintro e w2 ⟨rfl, hb2⟩
    go_wp2_with fail
    go_ret
    exact ⟨rfl, belowThen hb hb2⟩
  · go_enter Tryd.func18, Tryd.ntmps18
    go_wp2_with fail
    refine hW.mono ?_; rintro e w1 ⟨rfl, hb⟩
    go_wp2_with fail
    refine (hI _ hb).mono ?_; rintro e w2 ⟨rfl, hb2⟩
    go_wp2_with fail
    go_ret
    exact ⟨rfl, belowThen hb hb2⟩
set_option maxRecDepth 100000 in
set_option maxHeartbeats 2000000 in
theorem roman_in (page : Int) (w : World) (x : ByteArray) (h : 0 < page)
    (hW : Calls Tryd.prog 32 #[.int .i64 page, .string ⟨#[105]⟩] w fun e w' => e = .returned (.tuple #[.string x, .int .i64 0]) ∧ Below w.heap.size w w') :
    Calls Tryd.prog 18 #[.int .i64 page] w fun e w' => e = .returned (.string x) ∧ Below w.heap.size w w' := by
  go_enter Tryd.func18, Tryd.ntmps18
  go_wp2_with fail
  refine hW.mono ?_; rintro e w1 ⟨rfl, hb⟩
  go_wp2_with fail
  go_ret
  exact ⟨rfl, hb⟩
theorem titleRoman_any (page : Int) (w : World) (hp1 : -9223372036854775808 ≤ page) (hp2 : page ≤ 9223372036854775807) (ht : Tabs w) :
    Calls Tryd.prog 18 #[.int .i64 page] w fun e w' => e = .returned (.string (bar (pageL page))) ∧ Below w.heap.size w w' := by
  have hW := write_any page [105] w (by decide) ht
  have hI : ∀ w', Below w.heap.size w w' → Calls Tryd.prog 29 #[.int .i64 page] w' fun e w'' => e = .returned (.string (bar (Lib.itoa page))) ∧ Below w'.heap.size w' w'' :=
    fun w' hb => itoa_any page w' hp1 hp2 (ht.under hb).tab
  unfold wrOut at hW
  rw [if_pos (by decide)] at hW
  unfold pageL
  cases hf : fitsB page with
  | false =>
    rw [hf] at hW
    have hn : ¬ (-1000000000 ≤ page ∧ page ≤ 1000000000) := of_decide_eq_false hf
    rw [if_neg (by omega)]
    exact roman_out page w _ _ 5 (.inl (by decide)) hW hI
  | true =>
    rw [hf] at hW
    have hn : -1000000000 ≤ page ∧ page ≤ 1000000000 := of_decide_eq_true hf
    by_cases h0 : 0 < page
    · have e : textL page [105] = (if 0 < page ∧ page < 40000 then romL page.toNat else Lib.itoa page) := by
        unfold textL
        rw [if_neg (by omega), show textP page.natAbs [105] = textB page.natAbs [105] from by unfold textP; rw [if_neg (by decide)]]
        unfold textB
        rw [if_pos rfl]
        by_cases h4 : page < 40000
        · rw [if_pos (by omega), if_pos (by omega), show page.natAbs = page.toNat by omega]
        · rw [if_neg (by omega), if_neg (by omega), ← itoa_nat, show ((page.natAbs : Nat) : Int) = page by omega]
      rw [← e]
      exact roman_in page w _ h0 hW
    · rw [if_neg (by omega)]
      exact roman_out page w _ _ 0 (.inr ⟨rfl, h0⟩) hW hI

set_option maxRecDepth 100000 in
set_option maxHeartbeats 2000000 in
theorem ref13_out (page : Int) (w : World) (d : ByteArray) (h : page < 1 ∨ (¬ page < 1 ∧ 39999 < page))
    (hI : Calls Tryd.prog 31 #[.int .i64 page] w fun e w' => e = .returned (.string d) ∧ Below w.heap.size w w') :
    Calls Tryd.prog 19 #[.int .i64 page] w fun e w' => e = .returned (.string d) ∧ Below w.heap.size w w' := by
  rcases h with h | ⟨h, h2⟩
  all_goals
    go_enter Tryd.func19, Tryd.ntmps19
    go_wp2_with fail
    refine hI.mono ?_; rintro e w1 ⟨rfl, hb⟩
    go_wp2_with fail
    go_ret
    exact ⟨rfl, hb⟩
set_option maxRecDepth 100000 in
set_option maxHeartbeats 2000000 in
theorem ref13_in (N : Nat) (M : Int) (w : World) (hM : M = (N : Int)) (h0 : ¬ M < 1) (h1 : ¬ 39999 < M) (hN : N < 40000) :
    Calls Tryd.prog 19 #[.int .i64 M] w fun e w' => e = .returned (.string (bar (romL N))) ∧ Below w.heap.size w w' := by
  obtain ⟨W, hW, hb1, hb2, hbel⟩ := rom_cells w
  have HM := Lib.hid hM
  clear hM
  go_enter Tryd.func19, Tryd.ntmps19
  go_wp2_with fail
  go_loopw [0, 5, 6] (fun a s i wr => ∃ (j n : Nat) (l : List UInt8), a = .int .i64 n ∧ s = .string (bar l) ∧ i = .int .i64 j ∧ j ≤ 13 ∧ RomInv N j n l ∧ wr = W) (fun _ _ i _ => 13 - (intOf i).toNat)
  case atStart => exact ⟨0, N, [], by rw [HM.out], rfl, rfl, by omega, .first N, by rw [hW]; rfl⟩
  case round =>
    clear hW
    obtain ⟨j, n, l, rfl, rfl, rfl, hj, hinv, rfl⟩ := hrel
    have HI := Lib.hid hinv
    clear hinv
    by_cases hlt : j < 13
    · obtain ⟨v, t, htab, hv0, hv1, ht2⟩ := romTab_at j hlt
      have c1 : wr.cell? ⟨w.heap.size, j, none⟩ = some (.int .i64 v) := hb1.cellAt j _ (by unfold romVals; rw [List.getElem?_map, htab]; rfl)
      have c2 : wr.cell? ⟨w.heap.size + 1, j, none⟩ = some (.string (bar t)) := hb2.cellAt j _ (by unfold romTexts; rw [List.getElem?_map, htab]; rfl)
      have HT := Lib.hid htab
      clear htab
      have htz : (bar t).size ≤ 2 := by rw [bar_size]; exact ht2
      go_wp2
      have HW : ∃ W, W = wr := ⟨wr, rfl⟩
      obtain ⟨W, hW⟩ := HW
      go_loopw [0, 5] (fun a s x => ∃ (n : Nat) (l : List UInt8), a = .int .i64 n ∧ s = .string (bar l) ∧ RomInv N j n l ∧ x = W) (fun a _ _ => (intOf a).toNat)
      case atStart => exact ⟨n, l, rfl, rfl, HI.out, hW.symm⟩
      case round =>
        clear HI
        subst hW
        obtain ⟨n, l, rfl, rfl, hinv, rfl⟩ := hrel
        have hls : (bar l).size ≤ 60 := by rw [bar_size]; exact hinv.len hN
        have hnN := hinv.2
        have HI := Lib.hid hinv
        clear hinv
        by_cases hge : v ≤ n
        · go_wp2
          go_roundw
          case rel => exact ⟨n - v, l ++ t, by congr 1; omega, by rw [bar_app], HI.out.step HT.out hv0 hge, trivial⟩
          case measure => simp [intOf]; omega
        · go_wp2
          go_roundw
          case rel => exact ⟨j + 1, n, l, rfl, rfl, by go_num, by omega, HI.out.next HT.out (by omega), trivial⟩
          case measure => simp [intOf]; omega
    · go_wp2
      go_ret
      obtain rfl : j = 13 := by omega
      rw [HI.out.last]
      exact ⟨rfl, hbel⟩
theorem ref13_any (page : Int) (w : World) (hp1 : -9223372036854775808 ≤ page) (hp2 : page ≤ 9223372036854775807) :
    Calls Tryd.prog 19 #[.int .i64 page] w fun e w' => e = .returned (.string (bar (pageL page))) ∧ Below w.heap.size w w' := by
  unfold pageL
  by_cases h : 0 < page ∧ page < 40000
  · rw [if_pos h]
    exact ref13_in page.toNat page w (by omega) (by omega) (by omega) (by omega)
  · rw [if_neg h]
    exact ref13_out page w _ (by omega) (signed_any page w hp1 hp2)

set_option maxRecDepth 100000 in
set_option maxHeartbeats 2000000 in
theorem lawNumbers_big (s : ByteArray) (c page m : Int) (w : World) (hm : w.cell? ⟨0, 0, none⟩ = some (.int .i64 m)) (h : 3000 < s.size) :
    Calls Tryd.prog 8 #[.string s, .int .u8 c, .int .i64 page] w fun e w' => e = .returned (.bool true) ∧ Below w.heap.size w w' := by
  have hs := sane_any m w hm
  go_enter Tryd.func8, Tryd.ntmps8
  go_wp2_with fail
  refine hs.mono ?_; rintro e w1 ⟨rfl, hb⟩
  go_wp2_with fail
  go_ret
  exact ⟨rfl, hb⟩
set_option maxRecDepth 100000 in
set_option maxHeartbeats 2000000 in
theorem lawNumbers_walk (s t r : ByteArray) (c page a : Int) (w : World) (h : s.size ≤ 3000)
    (hA : ∀ w', Below w.heap.size w w' → Calls Tryd.prog 16 #[.string s, .int .u8 c, .int .i64 page] w' fun e w'' => e = .returned (.tuple #[.string t, .int .i64 a]) ∧ Below w'.heap.size w' w'')
    (hB : ∀ w', Below w.heap.size w w' → Calls Tryd.prog 17 #[.string s, .int .u8 c, .int .i64 page] w' fun e w'' => e = .returned (.tuple #[.string t, .int .i64 a]) ∧ Below w'.heap.size w' w'')
    (hC : ∀ w', Below w.heap.size w w' → Calls Tryd.prog 18 #[.int .i64 page] w' fun e w'' => e = .returned (.string r) ∧ Below w'.heap.size w' w'')
    (hD : ∀ w', Below w.heap.size w w' → Calls Tryd.prog 19 #[.int .i64 page] w' fun e w'' => e = .returned (.string r) ∧ Below w'.heap.size w' w'')
    (hS : ∀ w', Below w.heap.size w w' → Calls Tryd.prog 9 #[] w' fun e w'' => e = .returned (.bool true) ∧ Below w'.heap.size w' w'') :
    Calls Tryd.prog 8 #[.string s, .int .u8 c, .int .i64 page] w fun e w' => e = .returned (.bool true) ∧ Below w.heap.size w w' := by
  go_enter Tryd.func8, Tryd.ntmps8
  go_wp2_with fail
  refine (hA _ (Below.refl _ _)).mono ?_; rintro e w1 ⟨rfl, hb⟩
  go_wp2_with fail
  refine (hB _ hb).mono ?_; rintro e w2 ⟨rfl, hb2⟩
  have hb := belowThen hb hb2
  go_wp2_with fail
  refine (hC _ hb).mono ?_; rintro e w3 ⟨rfl, hb3⟩
  have hb := belowThen hb hb3
  go_wp2_with fail
  refine (hD _ hb).mono ?_; rintro e w4 ⟨rfl, hb4⟩
  have hb := belowThen hb hb4
  go_wp2_with fail
  refine (hS _ hb).mono ?_; rintro e w5 ⟨rfl, hb5⟩
  go_wp2_with fail
  go_ret
  exact ⟨rfl, belowThen hb hb5⟩
/-- **TitleNumbers is true.** -/
theorem lawNumbers (s : ByteArray) (c : UInt8) (page m : Int) (w : World) (hm : w.cell? ⟨0, 0, none⟩ = some (.int .i64 m)) (hp1 : -9223372036854775808 ≤ page) (hp2 : page ≤ 9223372036854775807) (ht : Tabs w) :
    Calls Tryd.prog 8 #[.string s, .int .u8 c.toNat, .int .i64 page] w fun e w' => e = .returned (.bool true) ∧ Below w.heap.size w w' := by
  by_cases h : 3000 < s.size
  · exact lawNumbers_big s _ page m w hm h
  have h0 : 0 < w.heap.size := by have := ht.inside; omega
  exact lawNumbers_walk s _ _ _ page _ w (by omega)
    (fun w' hb => number_any s c page w' (by omega) hp1 hp2 (ht.under hb).tab (ht.under hb).inside)
    (fun w' _ => refNumber_any s c page w' (by omega) hp1 hp2)
    (fun w' hb => titleRoman_any page w' hp1 hp2 (ht.under hb))
    (fun w' _ => ref13_any page w' hp1 hp2)
    (fun w' hb => sane_any m w' (later hb h0 hm))
end Go.Proofs.YtlniofkgjibpjaaDoor.Reg
