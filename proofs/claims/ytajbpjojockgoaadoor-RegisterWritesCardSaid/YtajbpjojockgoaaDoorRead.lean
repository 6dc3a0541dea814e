/-
  register.Roman: what it computes.
-/
import Derived.Test.YtajbpjojockgoaaDoorReadPlain
import Derived.Test.YtajbpjojockgoaaDoorText
import Derived.Maps.OwnOps
import Derived.Shelf.Strings.MapGrows
namespace Go.Proofs.YtajbpjojockgoaaDoor
open Go.RowKit Go.Maps

set_option maxRecDepth 100000 in
theorem closure_low (W : World) (x : Nat) (hx : x ≤ 1114111) :
    Calls Tryd.prog 21 #[.int .i32 (x : Int)] W fun e w' => e = .returned (.int .i32 (lowF x)) ∧ Below W.heap.size W w' := by
  unfold lowF
  by_cases h1 : (65 : Int) ≤ x
  · by_cases h2 : (x : Int) ≤ 90
    · rw [if_pos ⟨h1, h2⟩]
      go_enter Tryd.func21, Tryd.ntmps21
      go_wp2
      go_ret
      exact ⟨by simp; omega, Below.refl _ _⟩
    · rw [if_neg (by omega)]
      go_enter Tryd.func21, Tryd.ntmps21
      go_wp2
      go_ret
      exact ⟨rfl, Below.refl _ _⟩
  · rw [if_neg (by omega)]
    go_enter Tryd.func21, Tryd.ntmps21
    go_wp2
    go_ret
    exact ⟨rfl, Below.refl _ _⟩
theorem map_low (s : List UInt8) (w : World) (hs : s.length ≤ 1000) (hT : Lib.Utf8Tabs 0 1 w) :
    Calls Tryd.prog 20 #[.func (.func 21) #[] #[], .string (bar s)] w fun e w' => e = .returned (.string (bar (Lib.mapD lowF s))) ∧ Below w.heap.size w w' :=
  Tryd.strings_Map_grows 21 #[] (enters_of Tryd.func21 (by kernel_rfl) rfl) lowF (bar s) w (by rw [bar_size]; omega)
    (fun W x hx _ => closure_low W x hx) (fun x hx => lowF_range x hx) hT

/-- The map of the digits' worths. -/
def worthD : DataW Unit := (((((((DataW.map []).put (.int .u8 109) (.lit (.int .i64 1000))).put (.int .u8 100) (.lit (.int .i64 500))).put (.int .u8 99) (.lit (.int .i64 100))).put (.int .u8 108) (.lit (.int .i64 50))).put (.int .u8 120) (.lit (.int .i64 10))).put (.int .u8 118) (.lit (.int .i64 5))).put (.int .u8 105) (.lit (.int .i64 1))
def isInt (d : DataW Unit) (n : Int) : Bool := match d with | .lit (.int .i64 m) => m == n | _ => false
theorem isInt_inv {n c : Int} (h : isInt (.lit (.int .i64 c)) n = true) : c = n := by simpa [isInt] using h
theorem worthD_at (b : UInt8) : isInt (worthD.atKey (.int .u8 (b.toNat : Int)) (.lit (.int .i64 0))) (worth b) = true := by
  have h : ∀ n < 256, isInt (worthD.atKey (.int .u8 (n : Nat)) (.lit (.int .i64 0))) (worth (UInt8.ofNat n)) = true := by decide +kernel
  have := h b.toNat b.toNat_lt
  rwa [UInt8.ofNat_toNat] at this
theorem lawB : Keyed Tryd.prog 5 := int_keyed Tryd.underlying5
theorem zeroI (w : World) : (zeroValue 3).run Tryd.prog w = .ok (.int .i64 0) w := by kernel_rfl
theorem look_worth {w : World} {B n : Nat} (h : w.ownsMap Tryd.prog 5 (plainElem Tryd.prog 3) B n worthD) (b : UInt8) :
    (Instr.lookup 37 (.map (some B)) (.int .u8 (b.toNat : Int)) false).run Tryd.prog w = .ok (.int .i64 (worth b)) w := by
  obtain ⟨c, hrun, hat, _⟩ := h.lookup_int lawB Tryd.underlying37 Tryd.underlying3 (zeroI _) (keyOf_int_mk Tryd.underlying5 (q := .u8) (a := (b.toNat : Int)) (by have := b.toNat_lt; simp [Lit.wf, IntKind.min, IntKind.max, IntKind.signed, IntKind.bits]; omega))
  have := worthD_at b
  rw [hat] at this
  rw [hrun, isInt_inv this]
theorem map_made (w : World) : ∃ W1 W2 W3 W4 W5 W6 W7 : World,
    (Instr.mapUpdate 37 (.map (some w.heap.size)) (.int .u8 109) (.int .i64 1000)).run Tryd.prog (w.alloc (.map #[] 0)) = .ok () W1 ∧
    (Instr.mapUpdate 37 (.map (some w.heap.size)) (.int .u8 100) (.int .i64 500)).run Tryd.prog W1 = .ok () W2 ∧
    (Instr.mapUpdate 37 (.map (some w.heap.size)) (.int .u8 99) (.int .i64 100)).run Tryd.prog W2 = .ok () W3 ∧
    (Instr.mapUpdate 37 (.map (some w.heap.size)) (.int .u8 108) (.int .i64 50)).run Tryd.prog W3 = .ok () W4 ∧
    (Instr.mapUpdate 37 (.map (some w.heap.size)) (.int .u8 120) (.int .i64 10)).run Tryd.prog W4 = .ok () W5 ∧
    (Instr.mapUpdate 37 (.map (some w.heap.size)) (.int .u8 118) (.int .i64 5)).run Tryd.prog W5 = .ok () W6 ∧
    (Instr.mapUpdate 37 (.map (some w.heap.size)) (.int .u8 105) (.int .i64 1)).run Tryd.prog W6 = .ok () W7 ∧
    W7.ownsMap Tryd.prog 5 (plainElem Tryd.prog 3) w.heap.size 7 worthD ∧ Below w.heap.size w W7 := by
  have h0 : Below w.heap.size w (w.alloc (.map #[] 0)) := (Below.refl _ _).alloc (Nat.le_refl _) _
  have o0 : (w.alloc (.map #[] 0)).ownsMap Tryd.prog 5 (plainElem Tryd.prog 3) w.heap.size 0 (.map [] : DataW Unit) := World.ownsMap_made _ _ _ _
  obtain ⟨W1, e1, o1, g1⟩ := o0.update lawB Tryd.underlying37 (by unfold maxLen; omega) (keyOf_int_mk Tryd.underlying5 (q := .u8) (a := 109) (by decide)) (plainElem_int (H := Unit) Tryd.underlying3 (q := .i64) (a := 1000) (by decide))
  have h1 := h0.grown g1 h0.size (fun j hj => by cases hj; exact Nat.le_refl _)
  obtain ⟨W2, e2, o2, g2⟩ := o1.update lawB Tryd.underlying37 (by unfold maxLen; omega) (keyOf_int_mk Tryd.underlying5 (q := .u8) (a := 100) (by decide)) (plainElem_int (H := Unit) Tryd.underlying3 (q := .i64) (a := 500) (by decide))
  have h2 := h1.grown g2 h1.size (fun j hj => by cases hj; exact Nat.le_refl _)
  obtain ⟨W3, e3, o3, g3⟩ := o2.update lawB Tryd.underlying37 (by unfold maxLen; omega) (keyOf_int_mk Tryd.underlying5 (q := .u8) (a := 99) (by decide)) (plainElem_int (H := Unit) Tryd.underlying3 (q := .i64) (a := 100) (by decide))
  have h3 := h2.grown g3 h2.size (fun j hj => by cases hj; exact Nat.le_refl _)
  obtain ⟨W4, e4, o4, g4⟩ := o3.update lawB Tryd.underlying37 (by unfold maxLen; omega) (keyOf_int_mk Tryd.underlying5 (q := .u8) (a := 108) (by decide)) (plainElem_int (H := Unit) Tryd.underlying3 (q := .i64) (a := 50) (by decide))
  have h4 := h3.grown g4 h3.size (fun j hj => by cases hj; exact Nat.le_refl _)
  obtain ⟨W5, e5, o5, g5⟩ := o4.update lawB Tryd.underlying37 (by unfold maxLen; omega) (keyOf_int_mk Tryd.underlying5 (q := .u8) (a := 120) (by decide)) (plainElem_int (H := Unit) Tryd.underlying3 (q := .i64) (a := 10) (by decide))
  have h5 := h4.grown g5 h4.size (fun j hj => by cases hj; exact Nat.le_refl _)
  obtain ⟨W6, e6, o6, g6⟩ := o5.update lawB Tryd.underlying37 (by unfold maxLen; omega) (keyOf_int_mk Tryd.underlying5 (q := .u8) (a := 118) (by decide)) (plainElem_int (H := Unit) Tryd.underlying3 (q := .i64) (a := 5) (by decide))
  have h6 := h5.grown g6 h5.size (fun j hj => by cases hj; exact Nat.le_refl _)
  obtain ⟨W7, e7, o7, g7⟩ := o6.update lawB Tryd.underlying37 (by unfold maxLen; omega) (keyOf_int_mk Tryd.underlying5 (q := .u8) (a := 105) (by decide)) (plainElem_int (H := Unit) Tryd.underlying3 (q := .i64) (a := 1) (by decide))
  have h7 := h6.grown g7 h6.size (fun j hj => by cases hj; exact Nat.le_refl _)
  exact ⟨W1, W2, W3, W4, W5, W6, W7, e1, e2, e3, e4, e5, e6, e7, o7, h7⟩

/-- The digits from place j on, and what came before. -/
def RdInv (l : List UInt8) (j : Nat) (n : Int) : Prop := n + romV (l.drop j) = romV l ∧ -1000 * (j : Int) ≤ n ∧ n ≤ 1000 * (j : Int)
theorem RdInv.step {l : List UInt8} {j : Nat} {n : Int} (h : RdInv l j n) (a b : UInt8) (ha : l[j]? = some a) (hb : l[j + 1]? = some b) :
    RdInv l (j + 1) (n + (if worth a < worth b then -(worth a : Int) else worth a)) := by
  obtain ⟨hl, e⟩ := List.getElem?_eq_some_iff.1 ha
  obtain ⟨hl2, e2⟩ := List.getElem?_eq_some_iff.1 hb
  have h1 := h.1
  rw [List.drop_eq_getElem_cons hl, List.drop_eq_getElem_cons hl2, e, e2] at h1
  simp only [romV] at h1
  have hw := worth_le a
  refine ⟨?_, ?_⟩
  · rw [List.drop_eq_getElem_cons hl2, e2]; omega
  · have := h.2; split <;> omega
theorem RdInv.final {l : List UInt8} {j : Nat} {n : Int} (h : RdInv l j n) (a : UInt8) (ha : l[j]? = some a) (hb : l.length ≤ j + 1) : RdInv l (j + 1) (n + worth a) := by
  obtain ⟨hl, e⟩ := List.getElem?_eq_some_iff.1 ha
  have h1 := h.1
  rw [List.drop_eq_getElem_cons hl, List.drop_eq_nil_of_le hb, e] at h1
  simp only [romV] at h1
  have hw := worth_le a
  refine ⟨?_, ?_⟩
  · rw [List.drop_eq_nil_of_le hb]; simp only [romV]; omega
  · have := h.2; omega
theorem RdInv.first (l : List UInt8) : RdInv l 0 0 := ⟨by simp, by omega, by omega⟩
theorem RdInv.last {l : List UInt8} {n : Int} (h : RdInv l l.length n) : n = romV l := by
  have := h.1
  rw [List.drop_length] at this
  simp only [romV] at this; omega
theorem bar_at (l : List UInt8) (j : Nat) (h : j < (bar l).size) : l[j]? = some (bar l)[j] := by
  rw [List.getElem?_eq_getElem (by rw [← bar_size]; exact h)]; rfl

set_option maxRecDepth 100000 in
set_option maxHeartbeats 4000000 in
theorem read_walk (s l : List UInt8) (w : World) (r : Int × Int) (hr : r = readL l s) (hs : s.length ≤ 60) (hl : l.length ≤ 240)
    (hM : Calls Tryd.prog 20 #[.func (.func 21) #[] #[], .string (bar s)] w fun e w' => e = .returned (.string (bar l)) ∧ Below w.heap.size w w')
    (hX : ∀ (w' : World) (n : Int), Below w.heap.size w w' → 1 ≤ n → n ≤ 39999 → Calls Tryd.prog 13 #[.int .i64 n, .string ⟨#[105]⟩] w' fun e w'' => e = .returned (.string (bar (romL n.toNat))) ∧ Below w'.heap.size w' w'')
    (hY : ∀ (w' : World) (n : Int), Below w.heap.size w w' → 1 ≤ n → n ≤ 39999 → Calls Tryd.prog 13 #[.int .i64 n, .string ⟨#[73]⟩] w' fun e w'' => e = .returned (.string (bar (Lib.toUpperA (romL n.toNat)))) ∧ Below w'.heap.size w' w'') :
    Calls Tryd.prog 9 #[.string (bar s)] w fun e w' => e = .returned (.tuple #[.int .i64 r.1, .int .i64 r.2]) ∧ Below w.heap.size w w' := by
  have HR0 := Lib.hid hr
  clear hr
  have hsz : (bar s).size ≤ 60 := by rw [bar_size]; exact hs
  have hlz : (bar l).size ≤ 240 := by rw [bar_size]; exact hl
  have hmm := @run_makeMap Tryd.prog
  go_enter Tryd.func9, Tryd.ntmps9
  go_wp2_with fail
  refine hM.mono ?_; rintro e w1 ⟨rfl, hb⟩
  obtain ⟨W1, W2, W3, W4, W5, W6, W7, e1, e2, e3, e4, e5, e6, e7, hown, hb7⟩ := map_made w1
  go_wp2_with fail
  have hlook := look_worth hown
  have hbel := belowThen hb hb7
  clear e1 e2 e3 e4 e5 e6 e7 hown hmm hM hb hb7
  go_loopw [6, 18] (fun v c wr => ∃ (j : Nat) (n : Int), v = .int .i64 n ∧ c = .int .i64 j ∧ j ≤ (bar l).size ∧ RdInv l j n ∧ wr = W7) (fun _ c _ => (bar l).size - (intOf c).toNat)
  case atStart => exact ⟨0, 0, rfl, rfl, by omega, .first l, rfl⟩
  case round =>
    obtain ⟨j, n, rfl, rfl, hj, hinv, rfl⟩ := hrel
    have hn1 := hinv.2.1
    have hn2 := hinv.2.2
    have HI := Lib.hid hinv
    clear hinv
    by_cases hlt : j < (bar l).size
    · have ha := bar_at l j hlt
      have hwa := worth_le (bar l)[j]
      have HA := Lib.hid ha
      clear ha
      by_cases hlt2 : j + 1 < (bar l).size
      · have hb := bar_at l (j + 1) hlt2
        have hwb := worth_le (bar l)[j + 1]
        have hst := HI.out.step _ _ HA.out hb
        have HB := Lib.hid hb
        clear hb
        by_cases hw : worth (bar l)[j] < worth (bar l)[j + 1]
        · rw [if_pos hw] at hst
          go_wp2_with fail
          go_roundw
          case rel => exact ⟨j + 1, _, rfl, by go_num, by omega, hst, trivial⟩
          case measure => simp [intOf]; omega
        · rw [if_neg hw] at hst
          go_wp2_with fail
          go_roundw
          case rel => exact ⟨j + 1, _, rfl, by go_num, by omega, hst, trivial⟩
          case measure => simp [intOf]; omega
      · have hst := HI.out.final _ HA.out (by rw [← bar_size]; omega)
        go_wp2_with fail
        go_roundw
        case rel => exact ⟨j + 1, _, rfl, by go_num, by omega, hst, trivial⟩
        case measure => simp [intOf]; omega
    · have hv : n = romV l := by
        obtain rfl : j = l.length := by rw [bar_size] at hlt hj; omega
        exact HI.out.last
      have hr := HR0.out
      unfold readL at hr
      rw [← hv] at hr
      have HR := Lib.hid hr
      clear hr hv HI HR0
      by_cases h1 : n < 1
      · have E := Lib.hid (show r = (0, 4) from by rw [HR.out, if_neg (by omega)])
        go_wp2_with fail
        go_ret2
        exact ⟨by rw [E.out]; rfl, hbel⟩
      by_cases h2 : 39999 < n
      · have E := Lib.hid (show r = (0, 4) from by rw [HR.out, if_neg (by omega)])
        go_wp2_with fail
        go_ret2
        exact ⟨by rw [E.out]; rfl, hbel⟩
      have g1 : 1 ≤ n := by omega
      have g2 : n ≤ 39999 := by omega
      have hx := hX wr n hbel g1 g2
      have hy := fun w' hb => hY w' n hb g1 g2
      clear hX hY
      by_cases k1 : romL n.toNat = s
      · have E := Lib.hid (show r = (n, 0) from by rw [HR.out, if_pos ⟨g1, g2, .inl k1⟩])
        rw [k1] at hx
        clear HR k1 hy g1 g2
        go_wp2_with fail
        refine hx.mono ?_; rintro e w2 ⟨rfl, hb2⟩
        go_wp2_with fail
        go_ret2
        exact ⟨by rw [E.out]; rfl, belowThen hbel hb2⟩
      · have k1' : ((bar (romL n.toNat)).toList == (bar s).toList) = false := by rw [toList_bar, toList_bar]; simpa using k1
        generalize bar (romL n.toNat) = x at hx k1'
        by_cases k2 : Lib.toUpperA (romL n.toNat) = s
        · have E := Lib.hid (show r = (n, 0) from by rw [HR.out, if_pos ⟨g1, g2, .inr k2⟩])
          rw [k2] at hy
          clear HR k1 k2 g1 g2
          go_wp2_with fail
          refine hx.mono ?_; rintro e w2 ⟨rfl, hb2⟩
          have hb3 := belowThen hbel hb2
          go_wp2_with fail
          refine (hy _ hb3).mono ?_; rintro e w4 ⟨rfl, hb4⟩
          go_wp2_with fail
          go_ret2
          exact ⟨by rw [E.out]; rfl, belowThen hb3 hb4⟩
        · have k2' : ((bar (Lib.toUpperA (romL n.toNat))).toList == (bar s).toList) = false := by rw [toList_bar, toList_bar]; simpa using k2
          have E := Lib.hid (show r = (0, 4) from by rw [HR.out, if_neg (fun h => h.2.2.elim k1 k2)])
          generalize bar (Lib.toUpperA (romL n.toNat)) = y at hy k2'
          clear HR k1 k2 g1 g2
          go_wp2_with fail
          refine hx.mono ?_; rintro e w2 ⟨rfl, hb2⟩
          have hb3 := belowThen hbel hb2
          go_wp2_with fail
          refine (hy _ hb3).mono ?_; rintro e w4 ⟨rfl, hb4⟩
          go_wp2_with fail
          go_ret2
          exact ⟨by rw [E.out]; rfl, belowThen hb3 hb4⟩

set_option maxRecDepth 100000 in
theorem read_long (s : ByteArray) (w : World) (hs : 60 < s.size) :
    Calls Tryd.prog 9 #[.string s] w fun e w' => e = .returned (.tuple #[.int .i64 0, .int .i64 4]) ∧ Below w.heap.size w w' := by
  go_enter Tryd.func9, Tryd.ntmps9
  go_wp2_with fail
  go_ret2
  exact ⟨rfl, Below.refl _ _⟩
theorem lower_i : Lib.toLowerA [73] = [105] := rfl
theorem textB_rom (n : Nat) (h0 : 0 < n) (h1 : n < 40000) : textB n [105] = romL n := by unfold textB; rw [if_pos rfl, if_pos ⟨h0, h1⟩]
/-- register.Roman, every text. -/
theorem read_any (s : List UInt8) (w : World) (ht : Tabs w) (hT : Lib.Utf8Tabs 0 1 w) :
    Calls Tryd.prog 9 #[.string (bar s)] w fun e w' => e = .returned (.tuple #[.int .i64 (rdOut s).1, .int .i64 (rdOut s).2]) ∧ Below w.heap.size w w' := by
  unfold rdOut
  by_cases hs : 60 < s.length
  · rw [if_pos hs]; exact read_long (bar s) w (by rw [bar_size]; exact hs)
  · rw [if_neg hs]
    refine read_walk s (Lib.mapD lowF s) w _ rfl (by omega) ?_ (map_low s w (by omega) hT) ?_ ?_
    · have := mapD_le lowF s.length s (Nat.le_refl _); omega
    · intro w' n hb h1 h2
      have h := text_i n.toNat w' (by omega) (ht.under hb) ⟨#[105]⟩ (toList_bar [105])
      rw [textB_rom n.toNat (by omega) (by omega), show ((n.toNat : Nat) : Int) = n by omega] at h
      exact h
    · intro w' n hb h1 h2
      have h := text_up n.toNat w' (by omega) (ht.under hb) [73] (.inl rfl)
      rw [lower_i, textB_rom n.toNat (by omega) (by omega), show ((n.toNat : Nat) : Int) = n by omega] at h
      exact h
end Go.Proofs.YtajbpjojockgoaaDoor
