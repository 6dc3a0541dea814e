/-
  title.Number and the reference's Number put the page's number in the place of its char, or refuse, alike; texts of at most 100000 bytes, every int.
-/
import Derived.Test.YtlniofkgjibpjaaDoorParts
import Derived.Test.YtlniofkgjibpjaaDoorDigits
import Derived.WalkSmall
namespace Go.Proofs.YtlniofkgjibpjaaDoor
open Go.RowKit

theorem isBuilder_under {T e : TypeId} {B b : Nat} {bs : List Value} {w w' : World} (h : Lib.IsBuilder T e B b bs w) (hb : Below w.heap.size w w') : Lib.IsBuilder T e B b bs w' := by
  have hg : w.grownBy w' none := ⟨hb.os, hb.tape, hb.output, hb.size, fun k hk _ => hb.block k hk⟩
  have one : ∀ p, Lib.BuilderAt T e B b p bs w → Lib.BuilderAt T e B b p bs w' := by
    rintro p ⟨h1, v, h2, h3, h4⟩
    refine ⟨h1, v, ?_, h3.kept hg ?_, h4⟩
    · rw [hb.block b (Array.getElem?_eq_some_iff.1 h2).1]; exact h2
    · cases hv : v.ownBlock <;> simp
  exact h.elim (fun x => .inl (one _ x)) (fun x => .inr (one _ x))
theorem grow_below (w : World) (k : Nat) (os : Array Obj) : Below w.heap.size w (Sort.grow (w.drewN k) os) := by
  refine ⟨rfl, rfl, rfl, by simp [Sort.grow, World.drewN], fun i hi => ?_⟩
  show ((w.drewN k).heap ++ os)[i]? = _
  rw [Array.getElem?_append_left (by simpa [World.drewN] using hi)]
  rfl
theorem itoa_any (n : Int) (w : World) (h0 : -9223372036854775808 ≤ n) (h1 : n ≤ 9223372036854775807) (htab : Lib.TabIs Tryd.prog w "internal/strconv.uint64pow10" .u64 Lib.pow10Tab) :
    Calls Tryd.prog 29 #[.int .i64 n] w fun e w' => e = .returned (.string (bar (Lib.itoa n))) ∧ Below w.heap.size w w' :=
  (Tryd.strconv_Itoa n h0 h1 w htab).mono fun e w' ⟨h1, k, os, h2⟩ => ⟨h1, by rw [h2]; exact grow_below w k os⟩
theorem writeByte_any (b : Nat) (l : List UInt8) (c : UInt8) (B : Nat) (w : World) (h : Lib.IsBuilder 50 5 B b (Lib.byteCells l) w) (hl : l.length ≤ 100000) (hB : B ≤ w.heap.size) :
    Calls Tryd.prog 27 #[.pointer (some ⟨b, 0, none⟩), .int .u8 c.toNat] w fun e w' => e = .returned .nilIface ∧ Lib.IsBuilder 50 5 B b (Lib.byteCells (l ++ [c])) w' ∧ Below B w w' :=
  (Tryd.Builder_WriteByte B b _ c.toNat w h (by rw [Lib.byteCells_length]; omega) hB).mono fun e w' ⟨h1, h2, h3⟩ => ⟨h1, .inr (by simpa [Lib.byteCells] using h2), h3⟩
theorem writeString_any (b : Nat) (l s : List UInt8) (B : Nat) (w : World) (h : Lib.IsBuilder 50 5 B b (Lib.byteCells l) w) (hl : l.length + s.length ≤ 100000) (hB : B ≤ w.heap.size) :
    Calls Tryd.prog 28 #[.pointer (some ⟨b, 0, none⟩), .string (bar s)] w fun e w' => e = .returned (.tuple #[.int .i64 (bar s).size, .nilIface]) ∧ Lib.IsBuilder 50 5 B b (Lib.byteCells (l ++ s)) w' ∧ Below B w w' :=
  (Tryd.Builder_WriteString B b _ (bar s) w h (by rw [Lib.byteCells_length, bar_size]; omega) hB).mono fun e w' ⟨h1, h2, h3⟩ => ⟨h1, .inr (by simpa [Lib.byteCells, Lib.strCells, bar_data] using h2), h3⟩
theorem builderString (b : Nat) (l : List UInt8) (B : Nat) (w : World) (h : Lib.IsBuilder 50 5 B b (Lib.byteCells l) w) (hB : B ≤ w.heap.size) :
    Calls Tryd.prog 30 #[.pointer (some ⟨b, 0, none⟩)] w fun e w' => e = .returned (.string (bar l)) ∧ Below B w w' := Tryd.Builder_String_any B b l w h hB

/-- The char's place taken by the number d; a backslash ahead of the char keeps it. -/
def numL (c : UInt8) (d : List UInt8) : List UInt8 → List UInt8
  | [] => []
  | b :: l => if b = 92 ∧ l.head? = some c then c :: numL c d (l.drop 1) else if b = c then d ++ numL c d l else b :: numL c d l
termination_by l => l.length
decreasing_by all_goals simp; try omega

def NumInv (c : UInt8) (d s acc : List UInt8) (i : Nat) : Prop := numL c d s = acc ++ numL c d (s.drop i) ∧ acc.length ≤ 21 * i
theorem num_start (c : UInt8) (d s : List UInt8) : NumInv c d s [] 0 := ⟨by simp, by simp⟩
theorem num_end {c : UInt8} {d s acc : List UInt8} {i : Nat} (h : NumInv c d s acc i) (hi : s.length ≤ i) : numL c d s = acc := by
  rw [h.1, List.drop_eq_nil_of_le hi]; unfold numL; simp
theorem num_esc {c : UInt8} {d s acc : List UInt8} {i : Nat} (h : NumInv c d s acc i) (hi : i + 1 < s.length) (hb : s[i]'(by omega) = 92) (hc : s[i + 1] = c) : NumInv c d s (acc ++ [c]) (i + 2) := by
  refine ⟨?_, by have := h.2; simp; omega⟩
  rw [h.1, List.drop_eq_getElem_cons (by omega), hb, List.drop_eq_getElem_cons hi, hc]
  rw [numL, if_pos ⟨rfl, rfl⟩]
  simp
theorem num_hit {c : UInt8} {d s acc : List UInt8} {i : Nat} (h : NumInv c d s acc i) (hd : d.length ≤ 21) (hi : i < s.length) (hn : ¬ (s[i] = 92 ∧ (s.drop (i + 1)).head? = some c)) (hc : s[i] = c) : NumInv c d s (acc ++ d) (i + 1) := by
  refine ⟨?_, by have := h.2; simp; omega⟩
  rw [h.1, List.drop_eq_getElem_cons hi, numL, if_neg hn, if_pos hc]
  simp
theorem num_plain {c : UInt8} {d s acc : List UInt8} {i : Nat} (h : NumInv c d s acc i) (hi : i < s.length) (hn : ¬ (s[i] = 92 ∧ (s.drop (i + 1)).head? = some c)) (hc : ¬ s[i] = c) : NumInv c d s (acc ++ [s[i]]) (i + 1) := by
  refine ⟨?_, by have := h.2; simp; omega⟩
  rw [h.1, List.drop_eq_getElem_cons hi, numL, if_neg hn, if_neg hc]
  simp
theorem beqU (a b : UInt8) : ((a.toNat : Int) == (b.toNat : Int)) = decide (a = b) := by
  rw [Bool.eq_iff_iff]; simp
  constructor
  · intro h; exact UInt8.toNat_inj.1 (by omega)
  · rintro rfl; rfl
theorem beq92 (a : UInt8) : ((a.toNat : Int) == 92) = decide (a = 92) := beqU a 92
theorem beq0 (a : UInt8) : ((a.toNat : Int) == 0) = decide (a = 0) := beqU a 0

def numberV (s : List UInt8) (c : UInt8) (page : Int) : List UInt8 × Int :=
  if textB s = false then ([], 1) else if c = 0 then (s, 0) else (numL c (Lib.itoa page) s, 0)

theorem number_plainWays (s : ByteArray) (c : UInt8) (page : Int) (w : World) (hs : s.size ≤ 100000) (h : textB s.data.toList = false ∨ c = 0) :
    Calls Tryd.prog 16 #[.string s, .int .u8 c.toNat, .int .i64 page] w fun e w' => e = .returned (.tuple #[.string (bar (numberV s.data.toList c page).1), .int .i64 (numberV s.data.toList c page).2]) ∧ Below w.heap.size w w' := by
  have hb0 := beq0 c
  cases ht : textB s.data.toList with
  | false =>
    have hv : numberV s.data.toList c page = ([], 1) := by unfold numberV; rw [if_pos ht]
    rw [hv]
    clear hv hb0
    go_enter Tryd.func16, Tryd.ntmps16
    go_wp2_with (go_at_call 20; refine (fits_any _ _ hs).mono ?_; rintro e w' ⟨rfl, rfl⟩)
    go_ret2
    exact ⟨rfl, Below.refl _ _⟩
  | true =>
    have hc : c = 0 := h.resolve_left (by rw [ht]; simp)
    have hv : numberV s.data.toList c page = (s.data.toList, 0) := by unfold numberV; rw [if_neg (by rw [ht]; simp), if_pos hc]
    rw [hv]
    subst hc
    clear hv hb0
    go_enter Tryd.func16, Tryd.ntmps16
    go_wp2_with (go_at_call 20; refine (fits_any _ _ hs).mono ?_; rintro e w' ⟨rfl, rfl⟩)
    go_ret2
    exact ⟨by rw [bar_of]; rfl, Below.refl _ _⟩

set_option maxRecDepth 100000 in
set_option maxHeartbeats 2000000 in
theorem number_ok (s : ByteArray) (c : UInt8) (page : Int) (w : World) (hs : s.size ≤ 2000) (ht : textB s.data.toList = true) (hc0 : c ≠ 0) (hp1 : -9223372036854775808 ≤ page) (hp2 : page ≤ 9223372036854775807)
    (htab : Lib.TabIs Tryd.prog w "internal/strconv.uint64pow10" .u64 Lib.pow10Tab) (hg1 : 1 < w.heap.size) :
    Calls Tryd.prog 16 #[.string s, .int .u8 c.toNat, .int .i64 page] w fun e w' => e = .returned (.tuple #[.string (bar (numL c (Lib.itoa page) s.data.toList)), .int .i64 0]) ∧ Below w.heap.size w w' := by
  have hb0 : ((c.toNat : Int) == 0) = false := by rw [beq0]; simpa using hc0
  have hd := itoa_len page hp1 hp2
  generalize hD : Lib.itoa page = d at hd
  have HD := Lib.hid hD
  have HT := Lib.hid htab
  have HC := Lib.hid hc0
  clear hD htab hc0
  go_enter Tryd.func16, Tryd.ntmps16
  go_wp2_with (go_at_call 20; refine (fits_any _ _ (by omega)).mono ?_; rintro e w' ⟨rfl, rfl⟩)
  go_loopw [9] (fun v wr => ∃ (i : Nat) (acc : List UInt8), v = .int .i64 i ∧ i ≤ s.size ∧ NumInv c d s.data.toList acc i ∧ Lib.IsBuilder 50 5 w.heap.size w.heap.size (Lib.byteCells acc) wr ∧ Below w.heap.size w wr) (fun v _ => s.size - (intOf v).toNat)
  case atStart => exact ⟨0, [], rfl, Nat.zero_le _, num_start _ _ _, Lib.fresh_isBuilder 50 5 w, by go_grown⟩
  case round =>
    obtain ⟨i, acc, rfl, hi, hinv, hbd, hbel⟩ := hrel
    have hal := hinv.2
    have hz := hbel.size
    have HI := Lib.hid hinv
    clear hinv
    by_cases hlt : i < s.size
    · skip
      by_cases h92 : s[i] = 92
      · have t92 : ((s[i].toNat : Int) == 92) = true := by rw [beq92]; simpa using h92
        by_cases hnx : i + 1 < s.size
        · by_cases hc1 : s[i + 1] = c
          · have tc1 : ((s[i + 1].toNat : Int) == (c.toNat : Int)) = true := by rw [beqU]; simpa using hc1
            have H9 := Lib.hid h92
            have H1 := Lib.hid hc1
            clear h92 hc1
            go_wp2_with fail
            refine (writeByte_any w.heap.size acc c w.heap.size _ hbd (by omega) hz).mono ?_
            rintro e w1 ⟨rfl, hbd1, hb1⟩
            have hbel1 := hbel.trans hb1
            clear hbd hbel hb1
            go_wp2
            go_roundw
            case rel => exact ⟨i + 2, acc ++ [c], by go_num, by omega, num_esc HI.out (by simpa using hnx) H9.out H1.out, hbd1, hbel1⟩
            case measure => simp [intOf]; omega
          · have tc1 : ((s[i + 1].toNat : Int) == (c.toNat : Int)) = false := by rw [beqU]; simpa using hc1
            have hn : ¬ (s.data.toList[i]'(by simpa using hlt) = 92 ∧ (s.data.toList.drop (i + 1)).head? = some c) := by
              rintro ⟨_, h⟩
              rw [List.drop_eq_getElem_cons (by simpa using hnx)] at h
              exact hc1 (by show s.data[i + 1] = c; simpa using h)
            have HN := Lib.hid hn
            clear hn hc1 h92
            by_cases hc : s[i] = c
            · have tc : ((s[i].toNat : Int) == (c.toNat : Int)) = true := by rw [beqU]; simpa using hc
              have HCC := Lib.hid hc
              clear hc
              go_wp2_with fail
              refine (itoa_any page _ hp1 hp2 (var?_below hbel (by kernel_rfl) hg1 HT.out)).mono ?_
              rw [HD.out]
              rintro e w1 ⟨rfl, hb1⟩
              have hbd1 := isBuilder_under hbd hb1
              have hbel1 := hbel.trans (hb1.mono hz)
              have hz1 := hbel1.size
              clear hbd hbel hb1
              go_wp2_with fail
              refine (writeString_any w.heap.size acc d w.heap.size _ hbd1 (by omega) hz1).mono ?_
              rintro e w2 ⟨rfl, hbd2, hb2⟩
              have hbel2 := hbel1.trans hb2
              clear hbd1 hbel1 hb2
              go_wp2
              go_roundw
              case rel => exact ⟨i + 1, acc ++ d, by go_num, by omega, num_hit HI.out hd (by simpa using hlt) HN.out HCC.out, hbd2, hbel2⟩
              case measure => simp [intOf]; omega
            · have tc : ((s[i].toNat : Int) == (c.toNat : Int)) = false := by rw [beqU]; simpa using hc
              have HCC := Lib.hid hc
              clear hc
              go_wp2_with fail
              refine (writeByte_any w.heap.size acc s[i] w.heap.size _ hbd (by omega) hz).mono ?_
              rintro e w1 ⟨rfl, hbd1, hb1⟩
              have hbel1 := hbel.trans hb1
              clear hbd hbel hb1
              go_wp2
              go_roundw
              case rel => exact ⟨i + 1, acc ++ [s[i]], by go_num, by omega, num_plain HI.out (by simpa using hlt) HN.out HCC.out, hbd1, hbel1⟩
              case measure => simp [intOf]; omega
        · have hn : ¬ (s.data.toList[i]'(by simpa using hlt) = 92 ∧ (s.data.toList.drop (i + 1)).head? = some c) := by
            rintro ⟨_, h⟩
            rw [List.drop_eq_nil_of_le (by simp; omega)] at h
            cases h
          have HN := Lib.hid hn
          clear hn h92
          by_cases hc : s[i] = c
          · have tc : ((s[i].toNat : Int) == (c.toNat : Int)) = true := by rw [beqU]; simpa using hc
            have HCC := Lib.hid hc
            clear hc
            go_wp2_with fail
            refine (itoa_any page _ hp1 hp2 (var?_below hbel (by kernel_rfl) hg1 HT.out)).mono ?_
            rw [HD.out]
            rintro e w1 ⟨rfl, hb1⟩
            have hbd1 := isBuilder_under hbd hb1
            have hbel1 := hbel.trans (hb1.mono hz)
            have hz1 := hbel1.size
            clear hbd hbel hb1
            go_wp2_with fail
            refine (writeString_any w.heap.size acc d w.heap.size _ hbd1 (by omega) hz1).mono ?_
            rintro e w2 ⟨rfl, hbd2, hb2⟩
            have hbel2 := hbel1.trans hb2
            clear hbd1 hbel1 hb2
            go_wp2
            go_roundw
            case rel => exact ⟨i + 1, acc ++ d, by go_num, by omega, num_hit HI.out hd (by simpa using hlt) HN.out HCC.out, hbd2, hbel2⟩
            case measure => simp [intOf]; omega
          · have tc : ((s[i].toNat : Int) == (c.toNat : Int)) = false := by rw [beqU]; simpa using hc
            have HCC := Lib.hid hc
            clear hc
            go_wp2_with fail
            refine (writeByte_any w.heap.size acc s[i] w.heap.size _ hbd (by omega) hz).mono ?_
            rintro e w1 ⟨rfl, hbd1, hb1⟩
            have hbel1 := hbel.trans hb1
            clear hbd hbel hb1
            go_wp2
            go_roundw
            case rel => exact ⟨i + 1, acc ++ [s[i]], by go_num, by omega, num_plain HI.out (by simpa using hlt) HN.out HCC.out, hbd1, hbel1⟩
            case measure => simp [intOf]; omega
      · have t92 : ((s[i].toNat : Int) == 92) = false := by rw [beq92]; simpa using h92
        have hn : ¬ (s.data.toList[i]'(by simpa using hlt) = 92 ∧ (s.data.toList.drop (i + 1)).head? = some c) := fun h => h92 h.1
        have HN := Lib.hid hn
        clear hn h92
        by_cases hc : s[i] = c
        · have tc : ((s[i].toNat : Int) == (c.toNat : Int)) = true := by rw [beqU]; simpa using hc
          have HCC := Lib.hid hc
          clear hc
          go_wp2_with fail
          refine (itoa_any page _ hp1 hp2 (var?_below hbel (by kernel_rfl) hg1 HT.out)).mono ?_
          rw [HD.out]
          rintro e w1 ⟨rfl, hb1⟩
          have hbd1 := isBuilder_under hbd hb1
          have hbel1 := hbel.trans (hb1.mono hz)
          have hz1 := hbel1.size
          clear hbd hbel hb1
          go_wp2_with fail
          refine (writeString_any w.heap.size acc d w.heap.size _ hbd1 (by omega) hz1).mono ?_
          rintro e w2 ⟨rfl, hbd2, hb2⟩
          have hbel2 := hbel1.trans hb2
          clear hbd1 hbel1 hb2
          go_wp2
          go_roundw
          case rel => exact ⟨i + 1, acc ++ d, by go_num, by omega, num_hit HI.out hd (by simpa using hlt) HN.out HCC.out, hbd2, hbel2⟩
          case measure => simp [intOf]; omega
        · have tc : ((s[i].toNat : Int) == (c.toNat : Int)) = false := by rw [beqU]; simpa using hc
          have HCC := Lib.hid hc
          clear hc
          go_wp2_with fail
          refine (writeByte_any w.heap.size acc s[i] w.heap.size _ hbd (by omega) hz).mono ?_
          rintro e w1 ⟨rfl, hbd1, hb1⟩
          have hbel1 := hbel.trans hb1
          clear hbd hbel hb1
          go_wp2
          go_roundw
          case rel => exact ⟨i + 1, acc ++ [s[i]], by go_num, by omega, num_plain HI.out (by simpa using hlt) HN.out HCC.out, hbd1, hbel1⟩
          case measure => simp [intOf]; omega
    · go_wp2_with fail
      refine (builderString w.heap.size acc w.heap.size _ hbd hz).mono ?_
      rintro e w1 ⟨rfl, hb1⟩
      go_wp2
      go_ret2
      exact ⟨by rw [num_end HI.out (by simp; omega)]; rfl, hbel.trans hb1⟩

theorem number_any (s : ByteArray) (c : UInt8) (page : Int) (w : World) (hs : s.size ≤ 100000) (hp1 : -9223372036854775808 ≤ page) (hp2 : page ≤ 9223372036854775807)
    (htab : Lib.TabIs Tryd.prog w "internal/strconv.uint64pow10" .u64 Lib.pow10Tab) (hg1 : 1 < w.heap.size) :
    Calls Tryd.prog 16 #[.string s, .int .u8 c.toNat, .int .i64 page] w fun e w' => e = .returned (.tuple #[.string (bar (numberV s.data.toList c page).1), .int .i64 (numberV s.data.toList c page).2]) ∧ Below w.heap.size w w' := by
  by_cases h : textB s.data.toList = false ∨ c = 0
  · exact number_plainWays s c page w hs h
  · have ht : textB s.data.toList = true := by
      cases hh : textB s.data.toList with
      | false => exact absurd (.inl hh) h
      | true => rfl
    have hc : c ≠ 0 := fun e => h (.inr e)
    have hv : numberV s.data.toList c page = (numL c (Lib.itoa page) s.data.toList, 0) := by unfold numberV; rw [if_neg (by rw [ht]; simp), if_neg hc]
    rw [hv]
    exact number_ok s c page w (textB_size ht) ht hc hp1 hp2 htab hg1

theorem refNumber_plainWays (s : ByteArray) (c : UInt8) (page : Int) (w : World) (hs : s.size ≤ 100000) (h : textB s.data.toList = false ∨ c = 0) :
    Calls Tryd.prog 17 #[.string s, .int .u8 c.toNat, .int .i64 page] w fun e w' => e = .returned (.tuple #[.string (bar (numberV s.data.toList c page).1), .int .i64 (numberV s.data.toList c page).2]) ∧ Below w.heap.size w w' := by
  have hb0 := beq0 c
  cases ht : textB s.data.toList with
  | false =>
    have hv : numberV s.data.toList c page = ([], 1) := by unfold numberV; rw [if_pos ht]
    rw [hv]
    clear hv hb0
    go_enter Tryd.func17, Tryd.ntmps17
    go_wp2_with (go_at_call 22; refine (isText_any _ _ hs).mono ?_; rintro e w' ⟨rfl, rfl⟩)
    go_ret2
    exact ⟨rfl, Below.refl _ _⟩
  | true =>
    have hc : c = 0 := h.resolve_left (by rw [ht]; simp)
    have hv : numberV s.data.toList c page = (s.data.toList, 0) := by unfold numberV; rw [if_neg (by rw [ht]; simp), if_pos hc]
    rw [hv]
    subst hc
    clear hv hb0
    go_enter Tryd.func17, Tryd.ntmps17
    go_wp2_with (go_at_call 22; refine (isText_any _ _ hs).mono ?_; rintro e w' ⟨rfl, rfl⟩)
    go_ret2
    exact ⟨by rw [bar_of]; rfl, Below.refl _ _⟩
theorem extract_one (s : ByteArray) (i : Nat) (h : i < s.size) : s.extract i (i + 1) = bar [s[i]] := by
  apply ByteArray.ext; apply Array.toList_inj.1
  rw [Lib.extract_data, List.drop_eq_getElem_cons (by simpa using h)]
  rw [show i + 1 - i = 1 by omega]
  rfl

set_option maxRecDepth 100000 in
set_option maxHeartbeats 2000000 in
theorem refNumber_ok (s : ByteArray) (c : UInt8) (page : Int) (w : World) (hs : s.size ≤ 2000) (ht : textB s.data.toList = true) (hc0 : c ≠ 0) (hp1 : -9223372036854775808 ≤ page) (hp2 : page ≤ 9223372036854775807) :
    Calls Tryd.prog 17 #[.string s, .int .u8 c.toNat, .int .i64 page] w fun e w' => e = .returned (.tuple #[.string (bar (numL c (Lib.itoa page) s.data.toList)), .int .i64 0]) ∧ Below w.heap.size w w' := by
  have hb0 : ((c.toNat : Int) == 0) = false := by rw [beq0]; simpa using hc0
  have hd := itoa_len page hp1 hp2
  generalize hD : Lib.itoa page = d at hd
  have hds : (bar d).size ≤ 21 := by rw [bar_size]; exact hd
  have HD := Lib.hid hD
  have HC := Lib.hid hc0
  clear hD hc0
  go_enter Tryd.func17, Tryd.ntmps17
  go_wp2_with (go_at_call 22; refine (isText_any _ _ (by omega)).mono ?_; rintro e w' ⟨rfl, rfl⟩)
  go_loopw [8, 9] (fun a v wr => ∃ (i : Nat) (acc : List UInt8), v = .int .i64 i ∧ a = .string (bar acc) ∧ i ≤ s.size ∧ NumInv c d s.data.toList acc i ∧ Below w.heap.size w wr) (fun _ v _ => s.size - (intOf v).toNat)
  case atStart => exact ⟨0, [], rfl, rfl, Nat.zero_le _, num_start _ _ _, by go_grown⟩
  case round =>
    obtain ⟨i, acc, rfl, rfl, hi, hinv, hbel⟩ := hrel
    have hal : (bar acc).size ≤ 21 * i := by rw [bar_size]; exact hinv.2
    have hz := hbel.size
    have HI := Lib.hid hinv
    clear hinv
    by_cases hlt : i < s.size
    · skip
      by_cases h92 : s[i] = 92
      · have t92 : ((s[i].toNat : Int) == 92) = true := by rw [beq92]; simpa using h92
        by_cases hnx : i + 1 < s.size
        · by_cases hc1 : s[i + 1] = c
          · have tc1 : ((s[i + 1].toNat : Int) == (c.toNat : Int)) = true := by rw [beqU]; simpa using hc1
            have H9 := Lib.hid h92
            have H1 := Lib.hid hc1
            clear h92 hc1
            go_wp2
            go_roundw
            case rel => exact ⟨i + 2, acc ++ [c], by go_num, by rw [extract_one s (i + 1) hnx, bar_app, H1.out], by omega, num_esc HI.out (by simpa using hnx) H9.out H1.out, hbel⟩
            case measure => simp [intOf]; omega
          · have tc1 : ((s[i + 1].toNat : Int) == (c.toNat : Int)) = false := by rw [beqU]; simpa using hc1
            have hn : ¬ (s.data.toList[i]'(by simpa using hlt) = 92 ∧ (s.data.toList.drop (i + 1)).head? = some c) := by
              rintro ⟨_, h⟩
              rw [List.drop_eq_getElem_cons (by simpa using hnx)] at h
              exact hc1 (by show s.data[i + 1] = c; simpa using h)
            have HN := Lib.hid hn
            clear hn hc1 h92
            by_cases hc : s[i] = c
            · have tc : ((s[i].toNat : Int) == (c.toNat : Int)) = true := by rw [beqU]; simpa using hc
              have HCC := Lib.hid hc
              clear hc
              go_wp2_with fail
              refine (signed_any page _ hp1 hp2).mono ?_
              rw [HD.out]
              rintro e w1 ⟨rfl, hb1⟩
              have hbel1 := hbel.trans (hb1.mono hz)
              clear hbel hb1
              go_wp2
              go_roundw
              case rel => exact ⟨i + 1, acc ++ d, by go_num, by rw [bar_app], by omega, num_hit HI.out hd (by simpa using hlt) HN.out HCC.out, hbel1⟩
              case measure => simp [intOf]; omega
            · have tc : ((s[i].toNat : Int) == (c.toNat : Int)) = false := by rw [beqU]; simpa using hc
              have HCC := Lib.hid hc
              clear hc
              go_wp2
              go_roundw
              case rel => exact ⟨i + 1, acc ++ [s[i]], by go_num, by rw [extract_one s i hlt, bar_app], by omega, num_plain HI.out (by simpa using hlt) HN.out HCC.out, hbel⟩
              case measure => simp [intOf]; omega
        · have hn : ¬ (s.data.toList[i]'(by simpa using hlt) = 92 ∧ (s.data.toList.drop (i + 1)).head? = some c) := by
            rintro ⟨_, h⟩
            rw [List.drop_eq_nil_of_le (by simp; omega)] at h
            cases h
          have HN := Lib.hid hn
          clear hn h92
          by_cases hc : s[i] = c
          · have tc : ((s[i].toNat : Int) == (c.toNat : Int)) = true := by rw [beqU]; simpa using hc
            have HCC := Lib.hid hc
            clear hc
            go_wp2_with fail
            refine (signed_any page _ hp1 hp2).mono ?_
            rw [HD.out]
            rintro e w1 ⟨rfl, hb1⟩
            have hbel1 := hbel.trans (hb1.mono hz)
            clear hbel hb1
            go_wp2
            go_roundw
            case rel => exact ⟨i + 1, acc ++ d, by go_num, by rw [bar_app], by omega, num_hit HI.out hd (by simpa using hlt) HN.out HCC.out, hbel1⟩
            case measure => simp [intOf]; omega
          · have tc : ((s[i].toNat : Int) == (c.toNat : Int)) = false := by rw [beqU]; simpa using hc
            have HCC := Lib.hid hc
            clear hc
            go_wp2
            go_roundw
            case rel => exact ⟨i + 1, acc ++ [s[i]], by go_num, by rw [extract_one s i hlt, bar_app], by omega, num_plain HI.out (by simpa using hlt) HN.out HCC.out, hbel⟩
            case measure => simp [intOf]; omega
      · have t92 : ((s[i].toNat : Int) == 92) = false := by rw [beq92]; simpa using h92
        have hn : ¬ (s.data.toList[i]'(by simpa using hlt) = 92 ∧ (s.data.toList.drop (i + 1)).head? = some c) := fun h => h92 h.1
        have HN := Lib.hid hn
        clear hn h92
        by_cases hc : s[i] = c
        · have tc : ((s[i].toNat : Int) == (c.toNat : Int)) = true := by rw [beqU]; simpa using hc
          have HCC := Lib.hid hc
          clear hc
          go_wp2_with fail
          refine (signed_any page _ hp1 hp2).mono ?_
          rw [HD.out]
          rintro e w1 ⟨rfl, hb1⟩
          have hbel1 := hbel.trans (hb1.mono hz)
          clear hbel hb1
          go_wp2
          go_roundw
          case rel => exact ⟨i + 1, acc ++ d, by go_num, by rw [bar_app], by omega, num_hit HI.out hd (by simpa using hlt) HN.out HCC.out, hbel1⟩
          case measure => simp [intOf]; omega
        · have tc : ((s[i].toNat : Int) == (c.toNat : Int)) = false := by rw [beqU]; simpa using hc
          have HCC := Lib.hid hc
          clear hc
          go_wp2
          go_roundw
          case rel => exact ⟨i + 1, acc ++ [s[i]], by go_num, by rw [extract_one s i hlt, bar_app], by omega, num_plain HI.out (by simpa using hlt) HN.out HCC.out, hbel⟩
          case measure => simp [intOf]; omega
    · go_wp2
      go_ret2
      exact ⟨by rw [num_end HI.out (by simp; omega)]; rfl, hbel⟩
theorem refNumber_any (s : ByteArray) (c : UInt8) (page : Int) (w : World) (hs : s.size ≤ 100000) (hp1 : -9223372036854775808 ≤ page) (hp2 : page ≤ 9223372036854775807) :
    Calls Tryd.prog 17 #[.string s, .int .u8 c.toNat, .int .i64 page] w fun e w' => e = .returned (.tuple #[.string (bar (numberV s.data.toList c page).1), .int .i64 (numberV s.data.toList c page).2]) ∧ Below w.heap.size w w' := by
  by_cases h : textB s.data.toList = false ∨ c = 0
  · exact refNumber_plainWays s c page w hs h
  · have ht : textB s.data.toList = true := by
      cases hh : textB s.data.toList with
      | false => exact absurd (.inl hh) h
      | true => rfl
    have hc : c ≠ 0 := fun e => h (.inr e)
    have hv : numberV s.data.toList c page = (numL c (Lib.itoa page) s.data.toList, 0) := by unfold numberV; rw [if_neg (by rw [ht]; simp), if_neg hc]
    rw [hv]
    exact refNumber_ok s c page w (textB_size ht) ht hc hp1 hp2
end Go.Proofs.YtlniofkgjibpjaaDoor
