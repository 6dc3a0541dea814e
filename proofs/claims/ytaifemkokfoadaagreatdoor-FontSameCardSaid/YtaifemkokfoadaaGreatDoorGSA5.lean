/-
  Texts that lean on one another, laid in one file. No condition.
-/
import Derived.Test.YtaifemkokfoadaaGreatDoorGSA2
import Derived.Test.YtaifemkokfoadaaGreatDoorGSA4
import Derived.Test.YtaifemkokfoadaaGreatDoorWWords
import Derived.Deep.Slices
import Derived.ChangeArms
import Derived.ChangeSlices
import Derived.SizedLaws
import Derived.WideShapes
import Derived.Test.YtaifemkokfoadaaGreatDoorGSA1
import Derived.Lib.LaidU8
import Derived.Shelf.Vars
namespace Go.Proofs.YtaifemkokfoadaaGreatDoor
open Go.RowKit Go.Proofs.YtaifemkokfoadaaGreatDoorW.PrintWords Go.Proofs.YtaifemkokfoadaaGreatDoorW.PrintMore Go.Proofs.YtaifemkokfoadaaGreatDoor.PX
set_option linter.unusedSimpArgs false
set_option linter.unusedVariables false
theorem toList_inj {a b : ByteArray} : a.toList = b.toList ↔ a = b := by
  constructor
  · intro h
    rw [Lib.toList_data, Lib.toList_data] at h
    exact ByteArray.ext (Array.toList_inj.1 h)
  · rintro rfl
    rfl
theorem drop_iff {α : Type} (l m : List α) (i : Nat) (hi : i < l.length) (hm : i < m.length) : (l.drop i = m.drop i ↔ l[i] = m[i] ∧ l.drop (i + 1) = m.drop (i + 1)) := by
  rw [List.drop_eq_getElem_cons hi, List.drop_eq_getElem_cons hm, List.cons.injEq]
theorem extG (x y : S31) : x = y ↔ x.f0 = y.f0 ∧ x.f1 = y.f1 := by
  cases x; cases y; simp
theorem testG (x y : S31) : (((!(((x.f0).toList) == ((y.f0).toList))) || (!((x.f1) == (y.f1)))) = true) ↔ ¬ x = y := by
  rw [extG]
  by_cases h0 : x.f0.toList = y.f0.toList <;> by_cases h1 : x.f1 = y.f1 <;> simp_all [toList_inj]
theorem extRG (x y : S81) : x = y ↔ x.f0 = y.f0 ∧ x.f1 = y.f1 := by
  cases x; cases y; simp
theorem testRG (x y : S81) : (((!(((x.f0).toList) == ((y.f0).toList))) || (!((x.f1) == (y.f1)))) = true) ↔ ¬ x = y := by
  rw [extRG]
  by_cases h0 : x.f0.toList = y.f0.toList <;> by_cases h1 : x.f1 = y.f1 <;> simp_all [toList_inj]
theorem rdG (l : List S31) (i : Nat) (h : i < l.length) : rd_T31 l (i : Int) = l[i] := by simp [rd_T31, List.getD_eq_getElem?_getD, h]
theorem rdRG (l : List S81) (i : Nat) (h : i < l.length) : rd_T81 l (i : Int) = l[i] := by simp [rd_T81, List.getD_eq_getElem?_getD, h]
theorem loopG (l m : List S31) (hn : l.length = m.length) (hl : l.length ≤ 1000000) : ∀ d i, l.length - i = d → i ≤ l.length → ∃ b, Ev (fun k => font_Glyph.l0 k l m (l.length : Int) (i : Int)) b ∧ (b = true ↔ l.drop i = m.drop i) := by
  intro d
  induction d with
  | zero =>
    intro i hd hi
    refine ⟨true, Ev.step (fun k => by rw [font_Glyph.l0]) (evNeg (by omega) (Ev.now _)), ?_⟩
    rw [List.drop_eq_nil_of_le (by omega), List.drop_eq_nil_of_le (by omega)]
    simp
  | succ d ih =>
    intro i hd hi
    have h1 : i < l.length := by omega
    have h2 : i < m.length := by omega
    have q0 : (0 : Int) ≤ (i : Int) := by omega
    have q1 : (i : Int) < (l.length : Int) := by omega
    have q2 : (i : Int) < (m.length : Int) := by omega
    obtain ⟨b, h3, h4⟩ := ih (i + 1) (by omega) (by omega)
    have hw : wrap64 ((i : Int) + 1) = ((i + 1 : Nat) : Int) := (w64 (by omega) (by omega)).trans (by omega)
    by_cases hx : l[i] = m[i]
    · refine ⟨b, Ev.step (fun k => by rw [font_Glyph.l0]) (evPos q1 (evPos q0 (evPos q1 (evPos q2 (evNeg ?_ ?_))))), ?_⟩
      · rw [rdG l i h1, rdG m i h2, testG]
        exact fun h => h hx
      · rw [hw]
        exact h3
      · rw [h4, drop_iff l m i h1 h2]
        exact ⟨fun h => ⟨hx, h⟩, fun h => h.2⟩
    · refine ⟨false, Ev.step (fun k => by rw [font_Glyph.l0]) (evPos q1 (evPos q0 (evPos q1 (evPos q2 (evPos ?_ (Ev.now _)))))), ?_⟩
      · rw [rdG l i h1, rdG m i h2, testG]
        exact hx
      · rw [drop_iff l m i h1 h2]
        exact ⟨fun h => (by cases h), fun h => absurd h.1 hx⟩
theorem sameG (l m : List S31) (hl : l.length ≤ 1000000) : ∃ b, Ev (fun k => font_Glyph.f k l m) b ∧ (b = true ↔ l = m) := by
  by_cases hn : l.length = m.length
  · obtain ⟨b, h1, h2⟩ := loopG l m hn hl _ 0 rfl (Nat.zero_le _)
    have h1' : Ev (fun k => font_Glyph.l0 k l m (l.length : Int) 0) b := h1
    refine ⟨b, Ev.congr (fun k => by rw [font_Glyph.f]) (evPos (by omega) h1'), ?_⟩
    rw [h2, List.drop_zero, List.drop_zero]
  · refine ⟨false, Ev.congr (fun k => by rw [font_Glyph.f]) (evNeg (by omega) (Ev.now _)), ?_⟩
    exact ⟨fun h => (by cases h), fun h => absurd (by rw [h]) hn⟩
theorem extL (x y : S86) : x = y ↔ x.f0 = y.f0 ∧ x.f1 = y.f1 ∧ x.f2 = y.f2 := by
  cases x; cases y; simp
theorem testL (x y : S86) : (((!(((x.f0).toList) == ((y.f0).toList))) || ((!(((x.f1).toList) == ((y.f1).toList))) || (!(((x.f2).toList) == ((y.f2).toList))))) = true) ↔ ¬ x = y := by
  rw [extL]
  by_cases h0 : x.f0.toList = y.f0.toList <;> by_cases h1 : x.f1.toList = y.f1.toList <;> by_cases h2 : x.f2.toList = y.f2.toList <;> simp_all [toList_inj]
theorem extRL (x y : S83) : x = y ↔ x.f0 = y.f0 ∧ x.f1 = y.f1 ∧ x.f2 = y.f2 := by
  cases x; cases y; simp
theorem testRL (x y : S83) : (((!(((x.f0).toList) == ((y.f0).toList))) || ((!(((x.f1).toList) == ((y.f1).toList))) || (!(((x.f2).toList) == ((y.f2).toList))))) = true) ↔ ¬ x = y := by
  rw [extRL]
  by_cases h0 : x.f0.toList = y.f0.toList <;> by_cases h1 : x.f1.toList = y.f1.toList <;> by_cases h2 : x.f2.toList = y.f2.toList <;> simp_all [toList_inj]
theorem rdL (l : List S86) (i : Nat) (h : i < l.length) : rd_T86 l (i : Int) = l[i] := by simp [rd_T86, List.getD_eq_getElem?_getD, h]
theorem rdRL (l : List S83) (i : Nat) (h : i < l.length) : rd_T83 l (i : Int) = l[i] := by simp [rd_T83, List.getD_eq_getElem?_getD, h]
theorem loopL (l m : List S86) (hn : l.length = m.length) (hl : l.length ≤ 1000000) : ∀ d i, l.length - i = d → i ≤ l.length → ∃ b, Ev (fun k => font_Lig.l0 k l m (l.length : Int) (i : Int)) b ∧ (b = true ↔ l.drop i = m.drop i) := by
  intro d
  induction d with
  | zero =>
    intro i hd hi
    refine ⟨true, Ev.step (fun k => by rw [font_Lig.l0]) (evNeg (by omega) (Ev.now _)), ?_⟩
    rw [List.drop_eq_nil_of_le (by omega), List.drop_eq_nil_of_le (by omega)]
    simp
  | succ d ih =>
    intro i hd hi
    have h1 : i < l.length := by omega
    have h2 : i < m.length := by omega
    have q0 : (0 : Int) ≤ (i : Int) := by omega
    have q1 : (i : Int) < (l.length : Int) := by omega
    have q2 : (i : Int) < (m.length : Int) := by omega
    obtain ⟨b, h3, h4⟩ := ih (i + 1) (by omega) (by omega)
    have hw : wrap64 ((i : Int) + 1) = ((i + 1 : Nat) : Int) := (w64 (by omega) (by omega)).trans (by omega)
    by_cases hx : l[i] = m[i]
    · refine ⟨b, Ev.step (fun k => by rw [font_Lig.l0]) (evPos q1 (evPos q0 (evPos q1 (evPos q2 (evNeg ?_ ?_))))), ?_⟩
      · rw [rdL l i h1, rdL m i h2, testL]
        exact fun h => h hx
      · rw [hw]
        exact h3
      · rw [h4, drop_iff l m i h1 h2]
        exact ⟨fun h => ⟨hx, h⟩, fun h => h.2⟩
    · refine ⟨false, Ev.step (fun k => by rw [font_Lig.l0]) (evPos q1 (evPos q0 (evPos q1 (evPos q2 (evPos ?_ (Ev.now _)))))), ?_⟩
      · rw [rdL l i h1, rdL m i h2, testL]
        exact hx
      · rw [drop_iff l m i h1 h2]
        exact ⟨fun h => (by cases h), fun h => absurd h.1 hx⟩
theorem sameL (l m : List S86) (hl : l.length ≤ 1000000) : ∃ b, Ev (fun k => font_Lig.f k l m) b ∧ (b = true ↔ l = m) := by
  by_cases hn : l.length = m.length
  · obtain ⟨b, h1, h2⟩ := loopL l m hn hl _ 0 rfl (Nat.zero_le _)
    have h1' : Ev (fun k => font_Lig.l0 k l m (l.length : Int) 0) b := h1
    refine ⟨b, Ev.congr (fun k => by rw [font_Lig.f]) (evPos (by omega) h1'), ?_⟩
    rw [h2, List.drop_zero, List.drop_zero]
  · refine ⟨false, Ev.congr (fun k => by rw [font_Lig.f]) (evNeg (by omega) (Ev.now _)), ?_⟩
    exact ⟨fun h => (by cases h), fun h => absurd (by rw [h]) hn⟩
theorem extK (x y : S76) : x = y ↔ x.f0 = y.f0 ∧ x.f1 = y.f1 ∧ x.f2 = y.f2 := by
  cases x; cases y; simp
theorem testK (x y : S76) : (((!(((x.f0).toList) == ((y.f0).toList))) || ((!(((x.f1).toList) == ((y.f1).toList))) || (!((x.f2) == (y.f2))))) = true) ↔ ¬ x = y := by
  rw [extK]
  by_cases h0 : x.f0.toList = y.f0.toList <;> by_cases h1 : x.f1.toList = y.f1.toList <;> by_cases h2 : x.f2 = y.f2 <;> simp_all [toList_inj]
theorem extRK (x y : S84) : x = y ↔ x.f0 = y.f0 ∧ x.f1 = y.f1 ∧ x.f2 = y.f2 := by
  cases x; cases y; simp
theorem testRK (x y : S84) : (((!(((x.f0).toList) == ((y.f0).toList))) || ((!(((x.f1).toList) == ((y.f1).toList))) || (!((x.f2) == (y.f2))))) = true) ↔ ¬ x = y := by
  rw [extRK]
  by_cases h0 : x.f0.toList = y.f0.toList <;> by_cases h1 : x.f1.toList = y.f1.toList <;> by_cases h2 : x.f2 = y.f2 <;> simp_all [toList_inj]
theorem rdK (l : List S76) (i : Nat) (h : i < l.length) : rd_T76 l (i : Int) = l[i] := by simp [rd_T76, List.getD_eq_getElem?_getD, h]
theorem rdRK (l : List S84) (i : Nat) (h : i < l.length) : rd_T84 l (i : Int) = l[i] := by simp [rd_T84, List.getD_eq_getElem?_getD, h]
theorem loopK (l m : List S76) (hn : l.length = m.length) (hl : l.length ≤ 1000000) : ∀ d i, l.length - i = d → i ≤ l.length → ∃ b, Ev (fun k => font_Kern.l0 k l m (l.length : Int) (i : Int)) b ∧ (b = true ↔ l.drop i = m.drop i) := by
  intro d
  induction d with
  | zero =>
    intro i hd hi
    refine ⟨true, Ev.step (fun k => by rw [font_Kern.l0]) (evNeg (by omega) (Ev.now _)), ?_⟩
    rw [List.drop_eq_nil_of_le (by omega), List.drop_eq_nil_of_le (by omega)]
    simp
  | succ d ih =>
    intro i hd hi
    have h1 : i < l.length := by omega
    have h2 : i < m.length := by omega
    have q0 : (0 : Int) ≤ (i : Int) := by omega
    have q1 : (i : Int) < (l.length : Int) := by omega
    have q2 : (i : Int) < (m.length : Int) := by omega
    obtain ⟨b, h3, h4⟩ := ih (i + 1) (by omega) (by omega)
    have hw : wrap64 ((i : Int) + 1) = ((i + 1 : Nat) : Int) := (w64 (by omega) (by omega)).trans (by omega)
    by_cases hx : l[i] = m[i]
    · refine ⟨b, Ev.step (fun k => by rw [font_Kern.l0]) (evPos q1 (evPos q0 (evPos q1 (evPos q2 (evNeg ?_ ?_))))), ?_⟩
      · rw [rdK l i h1, rdK m i h2, testK]
        exact fun h => h hx
      · rw [hw]
        exact h3
      · rw [h4, drop_iff l m i h1 h2]
        exact ⟨fun h => ⟨hx, h⟩, fun h => h.2⟩
    · refine ⟨false, Ev.step (fun k => by rw [font_Kern.l0]) (evPos q1 (evPos q0 (evPos q1 (evPos q2 (evPos ?_ (Ev.now _)))))), ?_⟩
      · rw [rdK l i h1, rdK m i h2, testK]
        exact hx
      · rw [drop_iff l m i h1 h2]
        exact ⟨fun h => (by cases h), fun h => absurd h.1 hx⟩
theorem sameK (l m : List S76) (hl : l.length ≤ 1000000) : ∃ b, Ev (fun k => font_Kern.f k l m) b ∧ (b = true ↔ l = m) := by
  by_cases hn : l.length = m.length
  · obtain ⟨b, h1, h2⟩ := loopK l m hn hl _ 0 rfl (Nat.zero_le _)
    have h1' : Ev (fun k => font_Kern.l0 k l m (l.length : Int) 0) b := h1
    refine ⟨b, Ev.congr (fun k => by rw [font_Kern.f]) (evPos (by omega) h1'), ?_⟩
    rw [h2, List.drop_zero, List.drop_zero]
  · refine ⟨false, Ev.congr (fun k => by rw [font_Kern.f]) (evNeg (by omega) (Ev.now _)), ?_⟩
    exact ⟨fun h => (by cases h), fun h => absurd (by rw [h]) hn⟩
theorem fontSame_ev (a0 : ByteArray) (a1 : Bool) (a2 : Int) (l3 : List S31) (l4 : List S86) (l5 : List S76) (b0 : ByteArray) (b1 : Bool) (b2 : Int) (m3 : List S31) (m4 : List S86) (m5 : List S76) (h3 : l3.length ≤ 1000000) (h4 : l4.length ≤ 1000000) (h5 : l5.length ≤ 1000000) :
    ∃ b, Ev (fun k => font_Same.f k a0 a1 a2 l3 l4 l5 b0 b1 b2 m3 m4 m5) b ∧ (b = true ↔ (a0 = b0 ∧ a1 = b1 ∧ a2 = b2 ∧ l3 = m3 ∧ l4 = m4 ∧ l5 = m5)) := by
  have no : ∀ {P : Prop}, ¬ P → (false = true ↔ P) := fun h => ⟨fun e => (by cases e), fun e => absurd e h⟩
  by_cases e0 : a0 = b0
  rotate_left
  · exact ⟨false, Ev.congr (fun k => by rw [font_Same.f]) (evNeg (fun h => e0 (toList_inj.1 h)) (Ev.now _)), no (fun h => e0 h.1)⟩
  by_cases e1 : a1 = b1
  rotate_left
  · exact ⟨false, Ev.congr (fun k => by rw [font_Same.f]) (evPos (toList_inj.2 e0) (evNeg (fun h => e1 (by simpa using h)) (Ev.now _))), no (fun h => e1 h.2.1)⟩
  by_cases e2 : a2 = b2
  rotate_left
  · exact ⟨false, Ev.congr (fun k => by rw [font_Same.f]) (evPos (toList_inj.2 e0) (evPos (by simpa using e1) (evNeg e2 (Ev.now _)))), no (fun h => e2 h.2.2.1)⟩
  obtain ⟨g, g1, g2⟩ := sameG l3 m3 h3
  obtain ⟨l, l1, l2⟩ := sameL l4 m4 h4
  obtain ⟨n, n1, n2⟩ := sameK l5 m5 h5
  have start : ∀ {r : Bool}, Ev (fun k => (font_Glyph.f k l3 m3).bind fun t303 => (if t303 = true then ((font_Lig.f k l4 m4).bind fun t304 => (if t304 = true then ((font_Kern.f k l5 m5).bind fun t305 => (some t305)) else (some false))) else (some false))) r → Ev (fun k => font_Same.f k a0 a1 a2 l3 l4 l5 b0 b1 b2 m3 m4 m5) r := by
    intro r h
    refine Ev.congr (fun k => by rw [font_Same.f]) ?_
    refine evPos (toList_inj.2 e0) ?_
    refine evPos (by simpa using e1) ?_
    exact evPos e2 h
  cases g with
  | false =>
    refine ⟨false, start ?_, no (fun h => by have := g2.2 h.2.2.2.1; cases this)⟩
    refine Ev.bind g1 ?_
    exact evNeg Bool.false_ne_true (Ev.now _)
  | true =>
    cases l with
    | false =>
      refine ⟨false, start ?_, no (fun h => by have := l2.2 h.2.2.2.2.1; cases this)⟩
      refine Ev.bind g1 ?_
      refine evPos rfl ?_
      refine Ev.bind l1 ?_
      exact evNeg Bool.false_ne_true (Ev.now _)
    | true =>
      refine ⟨n, start ?_, ?_⟩
      · refine Ev.bind g1 ?_
        refine evPos rfl ?_
        refine Ev.bind l1 ?_
        refine evPos rfl ?_
        refine Ev.bind n1 ?_
        exact Ev.now _
      rw [n2]
      exact ⟨fun h => ⟨e0, e1, e2, g2.1 rfl, l2.1 rfl, h⟩, fun h => h.2.2.2.2.2⟩
theorem refL2 (a0 : ByteArray) (a1 : Bool) (a2 : Int) (l3 : List S81) (l4 : List S83) (l5 : List S84) (b0 : ByteArray) (b1 : Bool) (b2 : Int) (m3 : List S81) (m4 : List S83) (m5 : List S84) (n3 : l3.length = m3.length) (n4 : l4.length = m4.length) (n5 : l5.length = m5.length) (hl3 : l3.length ≤ 1000000) (hl4 : l4.length ≤ 1000000) (hl5 : l5.length ≤ 1000000) : ∀ d i, l5.length - i = d → i ≤ l5.length → ∃ b, Ev (fun k => frisketref07_Same.l2 k (i : Int) a0 a1 a2 l3 l4 l5 b0 b1 b2 m3 m4 m5) b ∧ (b = true ↔ (l5.drop i = m5.drop i)) := by
  intro d
  induction d with
  | zero =>
    intro i hd hi
    refine ⟨true, Ev.step (fun k => by rw [frisketref07_Same.l2]) (evNeg (by omega) (Ev.now _)), ?_⟩
    rw [List.drop_eq_nil_of_le (by omega : l5.length ≤ i), List.drop_eq_nil_of_le (by omega : m5.length ≤ i)]
    simp
  | succ d ih =>
    intro i hd hi
    have h1 : i < l5.length := by omega
    have h2 : i < m5.length := by omega
    have q0 : (0 : Int) ≤ (i : Int) := by omega
    have q1 : (i : Int) < (l5.length : Int) := by omega
    have q2 : (i : Int) < (m5.length : Int) := by omega
    obtain ⟨b, h3, h4⟩ := ih (i + 1) (by omega) (by omega)
    have hw : wrap64 ((i : Int) + 1) = ((i + 1 : Nat) : Int) := (w64 (by omega) (by omega)).trans (by omega)
    by_cases hx : l5[i] = m5[i]
    · refine ⟨b, Ev.step (fun k => by rw [frisketref07_Same.l2]) (evPos q1 (evPos q0 (evPos q2 (evNeg ?_ ?_)))), ?_⟩
      · rw [rdRK l5 i h1, rdRK m5 i h2, testRK]
        exact fun h => h hx
      · rw [hw]
        exact h3
      · rw [h4, drop_iff l5 m5 i h1 h2]
        exact ⟨fun h => ⟨hx, h⟩, fun h => h.2⟩
    · refine ⟨false, Ev.step (fun k => by rw [frisketref07_Same.l2]) (evPos q1 (evPos q0 (evPos q2 (evPos ?_ (Ev.now _))))), ?_⟩
      · rw [rdRK l5 i h1, rdRK m5 i h2, testRK]
        exact hx
      · rw [drop_iff l5 m5 i h1 h2]
        exact ⟨fun h => (by cases h), fun h => absurd h.1 hx⟩
theorem refL1 (a0 : ByteArray) (a1 : Bool) (a2 : Int) (l3 : List S81) (l4 : List S83) (l5 : List S84) (b0 : ByteArray) (b1 : Bool) (b2 : Int) (m3 : List S81) (m4 : List S83) (m5 : List S84) (n3 : l3.length = m3.length) (n4 : l4.length = m4.length) (n5 : l5.length = m5.length) (hl3 : l3.length ≤ 1000000) (hl4 : l4.length ≤ 1000000) (hl5 : l5.length ≤ 1000000) : ∀ d i, l4.length - i = d → i ≤ l4.length → ∃ b, Ev (fun k => frisketref07_Same.l1 k (i : Int) a0 a1 a2 l3 l4 l5 b0 b1 b2 m3 m4 m5) b ∧ (b = true ↔ (l4.drop i = m4.drop i ∧ l5.drop 0 = m5.drop 0)) := by
  intro d
  induction d with
  | zero =>
    intro i hd hi
    obtain ⟨rb, r1_, r2⟩ := refL2 a0 a1 a2 l3 l4 l5 b0 b1 b2 m3 m4 m5 n3 n4 n5 hl3 hl4 hl5 _ 0 rfl (Nat.zero_le _)
    have r1 : Ev (fun k => frisketref07_Same.l2 k 0 a0 a1 a2 l3 l4 l5 b0 b1 b2 m3 m4 m5) rb := r1_
    refine ⟨rb, Ev.step (fun k => by rw [frisketref07_Same.l1]) (evNeg (by omega) r1), ?_⟩
    rw [List.drop_eq_nil_of_le (by omega : l4.length ≤ i), List.drop_eq_nil_of_le (by omega : m4.length ≤ i)]
    rw [r2]
    exact ⟨fun h => ⟨rfl, h⟩, fun h => h.2⟩
  | succ d ih =>
    intro i hd hi
    have h1 : i < l4.length := by omega
    have h2 : i < m4.length := by omega
    have q0 : (0 : Int) ≤ (i : Int) := by omega
    have q1 : (i : Int) < (l4.length : Int) := by omega
    have q2 : (i : Int) < (m4.length : Int) := by omega
    obtain ⟨b, h3, h4⟩ := ih (i + 1) (by omega) (by omega)
    have hw : wrap64 ((i : Int) + 1) = ((i + 1 : Nat) : Int) := (w64 (by omega) (by omega)).trans (by omega)
    by_cases hx : l4[i] = m4[i]
    · refine ⟨b, Ev.step (fun k => by rw [frisketref07_Same.l1]) (evPos q1 (evPos q0 (evPos q2 (evNeg ?_ ?_)))), ?_⟩
      · rw [rdRL l4 i h1, rdRL m4 i h2, testRL]
        exact fun h => h hx
      · rw [hw]
        exact h3
      · rw [h4, drop_iff l4 m4 i h1 h2]
        exact ⟨fun h => ⟨⟨hx, h.1⟩, h.2⟩, fun h => ⟨h.1.2, h.2⟩⟩
    · refine ⟨false, Ev.step (fun k => by rw [frisketref07_Same.l1]) (evPos q1 (evPos q0 (evPos q2 (evPos ?_ (Ev.now _))))), ?_⟩
      · rw [rdRL l4 i h1, rdRL m4 i h2, testRL]
        exact hx
      · rw [drop_iff l4 m4 i h1 h2]
        exact ⟨fun h => (by cases h), fun h => absurd h.1.1 hx⟩
theorem refL0 (a0 : ByteArray) (a1 : Bool) (a2 : Int) (l3 : List S81) (l4 : List S83) (l5 : List S84) (b0 : ByteArray) (b1 : Bool) (b2 : Int) (m3 : List S81) (m4 : List S83) (m5 : List S84) (n3 : l3.length = m3.length) (n4 : l4.length = m4.length) (n5 : l5.length = m5.length) (hl3 : l3.length ≤ 1000000) (hl4 : l4.length ≤ 1000000) (hl5 : l5.length ≤ 1000000) : ∀ d i, l3.length - i = d → i ≤ l3.length → ∃ b, Ev (fun k => frisketref07_Same.l0 k (i : Int) a0 a1 a2 l3 l4 l5 b0 b1 b2 m3 m4 m5) b ∧ (b = true ↔ (l3.drop i = m3.drop i ∧ (l4.drop 0 = m4.drop 0 ∧ l5.drop 0 = m5.drop 0))) := by
  intro d
  induction d with
  | zero =>
    intro i hd hi
    obtain ⟨rb, r1_, r2⟩ := refL1 a0 a1 a2 l3 l4 l5 b0 b1 b2 m3 m4 m5 n3 n4 n5 hl3 hl4 hl5 _ 0 rfl (Nat.zero_le _)
    have r1 : Ev (fun k => frisketref07_Same.l1 k 0 a0 a1 a2 l3 l4 l5 b0 b1 b2 m3 m4 m5) rb := r1_
    refine ⟨rb, Ev.step (fun k => by rw [frisketref07_Same.l0]) (evNeg (by omega) r1), ?_⟩
    rw [List.drop_eq_nil_of_le (by omega : l3.length ≤ i), List.drop_eq_nil_of_le (by omega : m3.length ≤ i)]
    rw [r2]
    exact ⟨fun h => ⟨rfl, h⟩, fun h => h.2⟩
  | succ d ih =>
    intro i hd hi
    have h1 : i < l3.length := by omega
    have h2 : i < m3.length := by omega
    have q0 : (0 : Int) ≤ (i : Int) := by omega
    have q1 : (i : Int) < (l3.length : Int) := by omega
    have q2 : (i : Int) < (m3.length : Int) := by omega
    obtain ⟨b, h3, h4⟩ := ih (i + 1) (by omega) (by omega)
    have hw : wrap64 ((i : Int) + 1) = ((i + 1 : Nat) : Int) := (w64 (by omega) (by omega)).trans (by omega)
    by_cases hx : l3[i] = m3[i]
    · refine ⟨b, Ev.step (fun k => by rw [frisketref07_Same.l0]) (evPos q1 (evPos q0 (evPos q2 (evNeg ?_ ?_)))), ?_⟩
      · rw [rdRG l3 i h1, rdRG m3 i h2, testRG]
        exact fun h => h hx
      · rw [hw]
        exact h3
      · rw [h4, drop_iff l3 m3 i h1 h2]
        exact ⟨fun h => ⟨⟨hx, h.1⟩, h.2⟩, fun h => ⟨h.1.2, h.2⟩⟩
    · refine ⟨false, Ev.step (fun k => by rw [frisketref07_Same.l0]) (evPos q1 (evPos q0 (evPos q2 (evPos ?_ (Ev.now _))))), ?_⟩
      · rw [rdRG l3 i h1, rdRG m3 i h2, testRG]
        exact hx
      · rw [drop_iff l3 m3 i h1 h2]
        exact ⟨fun h => (by cases h), fun h => absurd h.1.1 hx⟩
theorem refJ (a0 : ByteArray) (a1 : Bool) (a2 : Int) (l3 : List S81) (l4 : List S83) (l5 : List S84) (b0 : ByteArray) (b1 : Bool) (b2 : Int) (m3 : List S81) (m4 : List S83) (m5 : List S84) (t : Bool) (h : t = true) : Ev (fun k => frisketref07_Same.j0 k t a0 a1 a2 l3 l4 l5 b0 b1 b2 m3 m4 m5) false := Ev.step (fun k => by rw [frisketref07_Same.j0]) (evPos h (Ev.now _))
theorem refSame_ev (a0 : ByteArray) (a1 : Bool) (a2 : Int) (l3 : List S81) (l4 : List S83) (l5 : List S84) (b0 : ByteArray) (b1 : Bool) (b2 : Int) (m3 : List S81) (m4 : List S83) (m5 : List S84) (h3 : l3.length ≤ 1000000) (h4 : l4.length ≤ 1000000) (h5 : l5.length ≤ 1000000) :
    ∃ b, Ev (fun k => frisketref07_Same.f k a0 a1 a2 l3 l4 l5 b0 b1 b2 m3 m4 m5) b ∧ (b = true ↔ (a0 = b0 ∧ a1 = b1 ∧ a2 = b2 ∧ l3 = m3 ∧ l4 = m4 ∧ l5 = m5)) := by
  have no : ∀ {P : Prop}, ¬ P → (false = true ↔ P) := fun h => ⟨fun e => (by cases e), fun e => absurd e h⟩
  by_cases e0 : a0 = b0
  rotate_left
  · exact ⟨false, Ev.congr (fun k => by rw [frisketref07_Same.f]) (evNeg (fun h => e0 (toList_inj.1 h)) (refJ _ _ _ _ _ _ _ _ _ _ _ _ _ rfl)), no (fun h => e0 h.1)⟩
  by_cases e1 : a1 = b1
  rotate_left
  · exact ⟨false, Ev.congr (fun k => by rw [frisketref07_Same.f]) (evPos (toList_inj.2 e0) (evPos (by simpa using e1) (refJ _ _ _ _ _ _ _ _ _ _ _ _ _ rfl))), no (fun h => e1 h.2.1)⟩
  by_cases e2 : a2 = b2
  rotate_left
  · exact ⟨false, Ev.congr (fun k => by rw [frisketref07_Same.f]) (evPos (toList_inj.2 e0) (evNeg (by simpa using e1) (evNeg e2 (refJ _ _ _ _ _ _ _ _ _ _ _ _ _ rfl)))), no (fun h => e2 h.2.2.1)⟩
  by_cases n3 : l3.length = m3.length
  rotate_left
  · exact ⟨false, Ev.congr (fun k => by rw [frisketref07_Same.f]) (evPos (toList_inj.2 e0) (evNeg (by simpa using e1) (evPos e2 (evNeg (by omega) (refJ _ _ _ _ _ _ _ _ _ _ _ _ _ rfl))))), no (fun h => n3 (by rw [h.2.2.2.1]))⟩
  by_cases n4 : l4.length = m4.length
  rotate_left
  · exact ⟨false, Ev.congr (fun k => by rw [frisketref07_Same.f]) (evPos (toList_inj.2 e0) (evNeg (by simpa using e1) (evPos e2 (evPos (by omega) (evNeg (by omega) (refJ _ _ _ _ _ _ _ _ _ _ _ _ _ rfl)))))), no (fun h => n4 (by rw [h.2.2.2.2.1]))⟩
  by_cases n5 : l5.length = m5.length
  rotate_left
  · exact ⟨false, Ev.congr (fun k => by rw [frisketref07_Same.f]) (evPos (toList_inj.2 e0) (evNeg (by simpa using e1) (evPos e2 (evPos (by omega) (evPos (by omega) (refJ _ _ _ _ _ _ _ _ _ _ _ _ _ (by simp; omega))))))), no (fun h => n5 (by rw [h.2.2.2.2.2]))⟩
  obtain ⟨b, h1_, h2⟩ := refL0 a0 a1 a2 l3 l4 l5 b0 b1 b2 m3 m4 m5 n3 n4 n5 h3 h4 h5 _ 0 rfl (Nat.zero_le _)
  have h1 : Ev (fun k => frisketref07_Same.l0 k 0 a0 a1 a2 l3 l4 l5 b0 b1 b2 m3 m4 m5) b := h1_
  refine ⟨b, Ev.congr (fun k => by rw [frisketref07_Same.f]) (evPos (toList_inj.2 e0) (evNeg (by simpa using e1) (evPos e2 (evPos (by omega) (evPos (by omega) (Ev.step (fun k => by rw [frisketref07_Same.j0]) (evNeg (by simp; omega) h1))))))), ?_⟩
  rw [h2]
  simp only [List.drop_zero]
  exact ⟨fun h => ⟨e0, e1, e2, h.1, h.2.1, h.2.2⟩, fun h => ⟨h.2.2.2.1, h.2.2.2.2.1, h.2.2.2.2.2⟩⟩
def asG (x : S31) : S81 := ⟨x.f0, x.f1⟩
def asL (x : S86) : S83 := ⟨x.f0, x.f1, x.f2⟩
def asK (x : S76) : S84 := ⟨x.f0, x.f1, x.f2⟩
theorem take_app {α β : Type} (f : α → β) (l : List α) (i : Nat) (h : i < l.length) : (l.take i).map f ++ [f l[i]] = (l.take (i + 1)).map f := by
  have e : l.take (i + 1) = l.take i ++ [l[i]] := by rw [List.take_add_one]; simp [h]
  rw [e, List.map_append]
  rfl
theorem asL2 (a0 : ByteArray) (a1 : Bool) (a2 : Int) (l3 : List S31) (l4 : List S86) (l5 : List S76) (hl3 : l3.length ≤ 1000000) (hl4 : l4.length ≤ 1000000) (hl5 : l5.length ≤ 1000000) : ∀ d i, l5.length - i = d → i ≤ l5.length → Ev (fun k => frisketlaw07_As.l2 k (i : Int) a0 a1 a2 l3 l4 l5 a0 a1 a2 (l3.map asG) (l4.map asL) ((l5.take i).map asK)) (a0, a1, a2, l3.map asG, l4.map asL, l5.map asK) := by
  intro d
  induction d with
  | zero =>
    intro i hd hi
    refine Ev.step (fun k => by rw [frisketlaw07_As.l2]) (evNeg (by omega) ?_)
    rw [List.take_of_length_le (by omega : l5.length ≤ i)]
    exact Ev.now _
  | succ d ih =>
    intro i hd hi
    have h1 : i < l5.length := by omega
    have q0 : (0 : Int) ≤ (i : Int) := by omega
    have q1 : (i : Int) < (l5.length : Int) := by omega
    have hw : wrap64 ((i : Int) + 1) = ((i + 1 : Nat) : Int) := (w64 (by omega) (by omega)).trans (by omega)
    have q3 : ((l5.take i).map asK).length < 3518437208883 := by rw [List.length_map, List.length_take]; omega
    refine Ev.step (fun k => by rw [frisketlaw07_As.l2]) (evPos q1 (evPos q0 (evPos q3 ?_)))
    have h := ih (i + 1) (by omega) (by omega)
    rw [← take_app asK l5 i h1] at h
    rw [hw, rdK l5 i h1]
    exact h
theorem asL1 (a0 : ByteArray) (a1 : Bool) (a2 : Int) (l3 : List S31) (l4 : List S86) (l5 : List S76) (hl3 : l3.length ≤ 1000000) (hl4 : l4.length ≤ 1000000) (hl5 : l5.length ≤ 1000000) : ∀ d i, l4.length - i = d → i ≤ l4.length → Ev (fun k => frisketlaw07_As.l1 k (i : Int) a0 a1 a2 l3 l4 l5 a0 a1 a2 (l3.map asG) ((l4.take i).map asL)) (a0, a1, a2, l3.map asG, l4.map asL, l5.map asK) := by
  intro d
  induction d with
  | zero =>
    intro i hd hi
    refine Ev.step (fun k => by rw [frisketlaw07_As.l1]) (evNeg (by omega) ?_)
    rw [List.take_of_length_le (by omega : l4.length ≤ i)]
    exact asL2 a0 a1 a2 l3 l4 l5 hl3 hl4 hl5 _ 0 rfl (Nat.zero_le _)
  | succ d ih =>
    intro i hd hi
    have h1 : i < l4.length := by omega
    have q0 : (0 : Int) ≤ (i : Int) := by omega
    have q1 : (i : Int) < (l4.length : Int) := by omega
    have hw : wrap64 ((i : Int) + 1) = ((i + 1 : Nat) : Int) := (w64 (by omega) (by omega)).trans (by omega)
    have q3 : ((l4.take i).map asL).length < 2932031007402 := by rw [List.length_map, List.length_take]; omega
    refine Ev.step (fun k => by rw [frisketlaw07_As.l1]) (evPos q1 (evPos q0 (evPos q3 ?_)))
    have h := ih (i + 1) (by omega) (by omega)
    rw [← take_app asL l4 i h1] at h
    rw [hw, rdL l4 i h1]
    exact h
theorem asL0 (a0 : ByteArray) (a1 : Bool) (a2 : Int) (l3 : List S31) (l4 : List S86) (l5 : List S76) (hl3 : l3.length ≤ 1000000) (hl4 : l4.length ≤ 1000000) (hl5 : l5.length ≤ 1000000) : ∀ d i, l3.length - i = d → i ≤ l3.length → Ev (fun k => frisketlaw07_As.l0 k (i : Int) a0 a1 a2 l3 l4 l5 a0 a1 a2 ((l3.take i).map asG)) (a0, a1, a2, l3.map asG, l4.map asL, l5.map asK) := by
  intro d
  induction d with
  | zero =>
    intro i hd hi
    refine Ev.step (fun k => by rw [frisketlaw07_As.l0]) (evNeg (by omega) ?_)
    rw [List.take_of_length_le (by omega : l3.length ≤ i)]
    exact asL1 a0 a1 a2 l3 l4 l5 hl3 hl4 hl5 _ 0 rfl (Nat.zero_le _)
  | succ d ih =>
    intro i hd hi
    have h1 : i < l3.length := by omega
    have q0 : (0 : Int) ≤ (i : Int) := by omega
    have q1 : (i : Int) < (l3.length : Int) := by omega
    have hw : wrap64 ((i : Int) + 1) = ((i + 1 : Nat) : Int) := (w64 (by omega) (by omega)).trans (by omega)
    have q3 : ((l3.take i).map asG).length < 5864062014805 := by rw [List.length_map, List.length_take]; omega
    refine Ev.step (fun k => by rw [frisketlaw07_As.l0]) (evPos q1 (evPos q0 (evPos q3 ?_)))
    have h := ih (i + 1) (by omega) (by omega)
    rw [← take_app asG l3 i h1] at h
    rw [hw, rdG l3 i h1]
    exact h
theorem as_ev (a0 : ByteArray) (a1 : Bool) (a2 : Int) (l3 : List S31) (l4 : List S86) (l5 : List S76) (hl3 : l3.length ≤ 1000000) (hl4 : l4.length ≤ 1000000) (hl5 : l5.length ≤ 1000000) : Ev (fun k => frisketlaw07_As.f k a0 a1 a2 l3 l4 l5) (a0, a1, a2, l3.map asG, l4.map asL, l5.map asK) := by
  have h : Ev (fun k => frisketlaw07_As.l0 k 0 a0 a1 a2 l3 l4 l5 a0 a1 a2 []) (a0, a1, a2, l3.map asG, l4.map asL, l5.map asK) := asL0 a0 a1 a2 l3 l4 l5 hl3 hl4 hl5 _ 0 rfl (Nat.zero_le _)
  exact Ev.congr (fun k => by rw [frisketlaw07_As.f]) h
theorem map_inj {α β : Type} (f : α → β) (hf : ∀ x y, f x = f y → x = y) : ∀ l m : List α, l.map f = m.map f ↔ l = m := fun l m => ⟨fun h => (List.map_inj_right (fun x y => hf x y)).1 h, fun h => by rw [h]⟩
theorem asG_inj (x y : S31) (h : asG x = asG y) : x = y := by cases x; cases y; simpa [asG] using h
theorem asL_inj (x y : S86) (h : asL x = asL y) : x = y := by cases x; cases y; simpa [asL] using h
theorem asK_inj (x y : S76) (h : asK x = asK y) : x = y := by cases x; cases y; simpa [asK] using h
theorem validR : validV fontR.f0 fontR.f2 fontR.f3 fontR.f4 fontR.f5 = true := by decide +kernel
theorem sane_ev : frisketlaw07_sane.f = some true := by
  have h1 : font_Valid.f fontR.f0 fontR.f1 fontR.f2 fontR.f3 fontR.f4 fontR.f5 = some true := by
    unfold font_Valid.f
    rw [validR]
    decide +kernel
  have h2 : font_find.f fontR.f0 fontR.f1 fontR.f2 fontR.f3 fontR.f4 fontR.f5 (⟨#[109]⟩ : ByteArray) = some (79, true) := by decide +kernel
  have h3 : (rd_T31 fontR.f3 79).f1 = 750 := by decide +kernel
  have h4 : font_scale.f 750 10 = some 75 := by decide +kernel
  have h5 : font_Width.f fontR.f0 fontR.f1 fontR.f2 fontR.f3 fontR.f4 fontR.f5 (⟨#[109]⟩ : ByteArray) 10 = some (75, 0) := by
    have hlen : fontR.f3.length = 97 := by decide +kernel
    unfold font_Width.f font_fair.f
    rw [if_pos (by decide), if_pos (by decide), h1, h2]
    simp only [Option.bind_some, if_true]
    rw [if_pos (by decide), if_pos (by rw [hlen]; decide), h3, h4]
    rfl
  show (font_Standard.f).bind _ = _
  unfold font_Standard.f
  simp only [Option.bind_some]
  rw [if_pos (by decide), if_pos (by decide)]
  show (font_Width.f fontR.f0 fontR.f1 fontR.f2 fontR.f3 fontR.f4 fontR.f5 (⟨#[109]⟩ : ByteArray) 10).bind _ = _
  rw [h5]
  rfl
theorem evSane {β : Type} {f : Nat → Bool → Option β} {r : β} (k : Ev (fun n => f n true) r) : Ev (fun n => (frisketlaw07_sane.f).bind (f n)) r := evUse sane_ev k
theorem lawSame_ev (a0 : ByteArray) (a1 : Bool) (a2 : Int) (l3 : List S31) (l4 : List S86) (l5 : List S76) (b0 : ByteArray) (b1 : Bool) (b2 : Int) (m3 : List S31) (m4 : List S86) (m5 : List S76) (h3 : l3.length ≤ 140737488355328) (h4 : l4.length ≤ 140737488355328) (h5 : l5.length ≤ 140737488355328) (g3 : m3.length ≤ 140737488355328) (g4 : m4.length ≤ 140737488355328) (g5 : m5.length ≤ 140737488355328) :
    Ev (fun k => frisketlaw07_FontSame.f k a0 a1 a2 l3 l4 l5 b0 b1 b2 m3 m4 m5) true := by
  have w3 : wrap64 ((l3.length : Int) + (m3.length : Int)) = (l3.length : Int) + (m3.length : Int) := w64 (by omega) (by omega)
  have w4 : wrap64 ((l4.length : Int) + (m4.length : Int)) = (l4.length : Int) + (m4.length : Int) := w64 (by omega) (by omega)
  have w5 : wrap64 ((l5.length : Int) + (m5.length : Int)) = (l5.length : Int) + (m5.length : Int) := w64 (by omega) (by omega)
  have big : ∀ t, t = true → Ev (fun k => frisketlaw07_FontSame.j0 k t a0 a1 a2 l3 l4 l5 b0 b1 b2 m3 m4 m5) true := fun t ht => Ev.step (fun k => by rw [frisketlaw07_FontSame.j0]) (evPos ht (evSane (Ev.now _)))
  refine Ev.congr (fun k => by rw [frisketlaw07_FontSame.f, w3, w4, w5]) ?_
  by_cases c3 : (l3.length : Int) + (m3.length : Int) > 200
  · exact evPos c3 (big _ rfl)
  by_cases c4 : (l4.length : Int) + (m4.length : Int) > 200
  · exact evNeg c3 (evPos c4 (big _ rfl))
  by_cases c5 : (l5.length : Int) + (m5.length : Int) > 200
  · exact evNeg c3 (evNeg c4 (big _ (decide_eq_true c5)))
  refine evNeg c3 (evNeg c4 (Ev.step (fun k => by rw [frisketlaw07_FontSame.j0]) (evNeg (by rw [decide_eq_false c5]; simp) ?_)))
  obtain ⟨x, x1, x2⟩ := fontSame_ev a0 a1 a2 l3 l4 l5 b0 b1 b2 m3 m4 m5 (by omega) (by omega) (by omega)
  obtain ⟨y, y1, y2⟩ := fontSame_ev b0 b1 b2 m3 m4 m5 a0 a1 a2 l3 l4 l5 (by omega) (by omega) (by omega)
  obtain ⟨z, z1, z2⟩ := fontSame_ev a0 a1 a2 l3 l4 l5 a0 a1 a2 l3 l4 l5 (by omega) (by omega) (by omega)
  obtain ⟨u, u1, u2⟩ := refSame_ev a0 a1 a2 (l3.map asG) (l4.map asL) (l5.map asK) b0 b1 b2 (m3.map asG) (m4.map asL) (m5.map asK) (by rw [List.length_map]; omega) (by rw [List.length_map]; omega) (by rw [List.length_map]; omega)
  rw [map_inj asG asG_inj, map_inj asL asL_inj, map_inj asK asK_inj] at u2
  have exu : x = u := Bool.eq_iff_iff.2 (x2.trans u2.symm)
  have eyx : y = x := Bool.eq_iff_iff.2 (y2.trans (Iff.trans ⟨fun h => ⟨h.1.symm, h.2.1.symm, h.2.2.1.symm, h.2.2.2.1.symm, h.2.2.2.2.1.symm, h.2.2.2.2.2.symm⟩, fun h => ⟨h.1.symm, h.2.1.symm, h.2.2.1.symm, h.2.2.2.1.symm, h.2.2.2.2.1.symm, h.2.2.2.2.2.symm⟩⟩ x2.symm))
  have ez : z = true := z2.2 ⟨rfl, rfl, rfl, rfl, rfl, rfl⟩
  subst exu
  subst eyx
  subst ez
  refine Ev.bind x1 (Ev.bind (as_ev a0 a1 a2 l3 l4 l5 (by omega) (by omega) (by omega)) (Ev.bind (as_ev b0 b1 b2 m3 m4 m5 (by omega) (by omega) (by omega)) (Ev.bind u1 (evPos (by simp) (Ev.bind y1 (Ev.bind x1 (evPos (by simp) (Ev.bind z1 (evPos rfl (evSane (Ev.now _)))))))))))
end Go.Proofs.YtaifemkokfoadaaGreatDoor

namespace Go.Proofs.YtaifemkokfoadaaGreatDoor
open Go.ChangeShapes Go.WideShapes Go.RowKit Go.Deep Go.Proofs.YtaifemkokfoadaaGreatDoorW.PrintWords
section
variable {H : Type} {enc : TypeId × Value → H} {P : Program} {w : World} {sp : Nat → Bool} {held : Bool} {α : Type}
end
end Go.Proofs.YtaifemkokfoadaaGreatDoor

namespace Go.Proofs.YtaifemkokfoadaaGreatDoor
open Go.ChangeShapes Go.WideShapes Go.RowKit Go.Deep Go.Proofs.YtaifemkokfoadaaGreatDoorW.PrintWords Go.Proofs.YtaifemkokfoadaaGreatDoor.PX
section
variable {H : Type} {enc : TypeId × Value → H} {w : World} {sp : Nat → Bool} {held : Bool}
theorem dec_rows {α : Type} [Inhabited α] (d : Kd α) {P : Program} {t e : TypeId} {fuel : Nat} {cs : List Value} {x : DataW H × List MemPlace} (ht : P.underlying t = some (.slice e)) (hc : P.cellsOf e = d.sz)
    (dec : ∀ n cs x, DataW.trod enc P w 0 sp held n e cs = some x → ∃ y : α, d.K w y cs) (h : DataW.trod enc P w 0 sp held fuel t cs = some x) :
    ∃ A c l, cs = [.slice A l.length c] ∧ l.length ≤ c ∧ Kd.C d w A l.length l ∧ (l.length = 0 ∨ ∃ elems spare, x.1 = .slice elems spare ∧ elems.length = l.length) := by
  rcases open_slice ht h with ⟨hcs, _⟩ | ⟨a, len, cap, m, n, D, Pl, hcs, _, hl, hm, hmm, hx, hel⟩
  · exact ⟨none, 0, [], hcs, Nat.le_refl _, ⟨rfl, by simp, fun h => by simp at h⟩, .inl rfl⟩
  · have hlm : len ≤ m := by rw [hmm]; split <;> omega
    obtain ⟨F, hF⟩ := choose_lt (α := α) (p := fun i y => ∃ cs', w.cells? 0 (a.add (i * d.sz)) d.sz = some cs' ∧ d.K w y cs') (n := m) (fun i hi => by
      obtain ⟨cs', h1, h2⟩ := hel i hi
      rw [hc] at h1
      obtain ⟨y, hy⟩ := dec _ _ _ h2
      exact ⟨y, cs', h1, hy⟩)
    refine ⟨some a, cap, (List.range len).map F, by simp [hcs], by simpa using hl, ⟨rfl, ?_, fun _ => ⟨a, rfl, fun j p hj => ?_⟩⟩, .inr ⟨_, _, by rw [hx], by simp⟩⟩
    · have : maxLen = 9223372036854775807 := rfl
      simp; omega
    · have hj2 : j < len := by
        rcases Nat.lt_or_ge j len with h1 | h1
        · exact h1
        · rw [List.getElem?_eq_none (by simpa using h1)] at hj; cases hj
      rw [List.getElem?_map, List.getElem?_range hj2] at hj
      cases hj
      obtain ⟨cs', h1, h2⟩ := hF j (by omega)
      obtain ⟨_, h3, h4⟩ := World.cells?_some h1
      refine ⟨cs', h3, h2, fun i u hu => ?_⟩
      have hi : i < d.sz := by
        rw [← h3]
        rcases Nat.lt_or_ge i cs'.length with h1 | h1
        · exact h1
        · rw [List.getElem?_eq_none h1] at hu; cases hu
      have := h4 i hi
      rw [Go.Deep.add_add] at this
      rw [this, hu]
set_option maxRecDepth 100000 in
theorem decG (n : Nat) (cs : List Value) (x : DataW H × List MemPlace) (h : DataW.trod enc Tryz.prog w 0 sp held n 31 cs = some x) : ∃ y : S31, k31.K w y cs := by
  obtain ⟨xs, k, hk, hxy, hcl, hxl, hf⟩ := DataW.trod_struct Tryz.underlying31 h
  have c0 : Tryz.prog.cellsOf 31 = 2 := by kernel_rfl
  have c3 : Tryz.prog.cellsOf 3 = 1 := by kernel_rfl
  have c9 : Tryz.prog.cellsOf 9 = 1 := by kernel_rfl
  rw [c0] at hcl
  match xs, hxl, cs, hcl with
  | [y0, y1], _, [v0, v1], _ =>
    have g0 := hf 0 _ rfl
    have g1 := hf 1 _ rfl
    simp [c3, c9] at g0 g1
    obtain ⟨n0, e0, _⟩ := DataW.trod_string Tryz.underlying9 g0
    obtain ⟨n1, e1, _⟩ := DataW.trod_int Tryz.underlying3 g1
    cases e0; cases e1
    exact ⟨⟨n0, n1⟩, k31_mk w ⟨n0, n1⟩⟩
set_option maxRecDepth 100000 in
theorem decL (n : Nat) (cs : List Value) (x : DataW H × List MemPlace) (h : DataW.trod enc Tryz.prog w 0 sp held n 86 cs = some x) : ∃ y : S86, k86.K w y cs := by
  obtain ⟨xs, k, hk, hxy, hcl, hxl, hf⟩ := DataW.trod_struct Tryz.underlying86 h
  have c0 : Tryz.prog.cellsOf 86 = 3 := by kernel_rfl
  have c9 : Tryz.prog.cellsOf 9 = 1 := by kernel_rfl
  rw [c0] at hcl
  match xs, hxl, cs, hcl with
  | [y0, y1, y2], _, [v0, v1, v2], _ =>
    have g0 := hf 0 _ rfl
    have g1 := hf 1 _ rfl
    have g2 := hf 2 _ rfl
    simp [c9] at g0 g1 g2
    obtain ⟨n0, e0, _⟩ := DataW.trod_string Tryz.underlying9 g0
    obtain ⟨n1, e1, _⟩ := DataW.trod_string Tryz.underlying9 g1
    obtain ⟨n2, e2, _⟩ := DataW.trod_string Tryz.underlying9 g2
    cases e0; cases e1; cases e2
    exact ⟨⟨n0, n1, n2⟩, k86_mk w ⟨n0, n1, n2⟩⟩
set_option maxRecDepth 100000 in
theorem decK (n : Nat) (cs : List Value) (x : DataW H × List MemPlace) (h : DataW.trod enc Tryz.prog w 0 sp held n 76 cs = some x) : ∃ y : S76, k76.K w y cs := by
  obtain ⟨xs, k, hk, hxy, hcl, hxl, hf⟩ := DataW.trod_struct Tryz.underlying76 h
  have c0 : Tryz.prog.cellsOf 76 = 3 := by kernel_rfl
  have c3 : Tryz.prog.cellsOf 3 = 1 := by kernel_rfl
  have c9 : Tryz.prog.cellsOf 9 = 1 := by kernel_rfl
  rw [c0] at hcl
  match xs, hxl, cs, hcl with
  | [y0, y1, y2], _, [v0, v1, v2], _ =>
    have g0 := hf 0 _ rfl
    have g1 := hf 1 _ rfl
    have g2 := hf 2 _ rfl
    simp [c3, c9] at g0 g1 g2
    obtain ⟨n0, e0, _⟩ := DataW.trod_string Tryz.underlying9 g0
    obtain ⟨n1, e1, _⟩ := DataW.trod_string Tryz.underlying9 g1
    obtain ⟨n2, e2, _⟩ := DataW.trod_int Tryz.underlying3 g2
    cases e0; cases e1; cases e2
    exact ⟨⟨n0, n1, n2⟩, k76_mk w ⟨n0, n1, n2⟩⟩
/-- A length out of a field's weight. -/
theorem len_of_weight {P : Program} {ts fs : List TypeId} {ds Ds : List (DataW H)} {T t e : TypeId} {i j : Nat} {elems spare : List (DataW H)} (h : (DataW.weightsEach P ts ds).all (· ≤ reachBytes) = true) (ht : ts[j]? = some T) (hd : ds[j]? = some (.agg Ds))
    (hw : DataW.weights P T (.agg Ds) = DataW.weightsEach P fs Ds) (hf : fs[i]? = some t) (hD : Ds[i]? = some (.slice elems spare)) (hu : P.underlying t = some (.slice e)) (hb : 1 ≤ P.bytesOf e) : elems.length ≤ 140737488355328 := by
  have h1 : (elems.length + spare.length) * P.bytesOf e ∈ DataW.weightsEach P fs Ds := DataW.weights_mem_each hf hD _ (by simp [DataW.weights, hu])
  rw [← hw] at h1
  have h2 := List.all_eq_true.1 h _ (DataW.weights_mem_each ht hd _ h1)
  have h3 : (elems.length + spare.length) * P.bytesOf e ≤ reachBytes := by simpa using h2
  have h4 := reachBytes_lt
  have h5 : elems.length + spare.length ≤ (elems.length + spare.length) * P.bytesOf e := Nat.le_mul_of_pos_right _ hb
  omega
set_option maxRecDepth 100000 in
theorem open_font {r : Reach} {b0 : Nat} {v : Value} {d0 : DataW H} {ps : List MemPlace} {ts : List TypeId} {ds : List (DataW H)} {j : Nat} (hwt : (DataW.weightsEach Tryz.prog ts ds).all (· ≤ reachBytes) = true) (ht : ts[j]? = some 26) (hd : ds[j]? = some d0)
    (hval : Value.okWide Tryz.prog w r b0 26 v) (h : DataW.Trod enc Tryz.prog w 0 sp held 26 v d0 ps) :
    ∃ a b c A3 c3 l3 A4 c4 l4 A5 c5 l5, v = .agg #[.string a, .bool b, .int .i64 c, .slice A3 l3.length c3, .slice A4 l4.length c4, .slice A5 l5.length c5] ∧ Kd.C k31 w A3 l3.length l3 ∧ l3.length ≤ c3 ∧ Kd.C k86 w A4 l4.length l4 ∧ l4.length ≤ c4 ∧ Kd.C k76 w A5 l5.length l5 ∧ l5.length ≤ c5 ∧
      l3.length ≤ 140737488355328 ∧ l4.length ≤ 140737488355328 ∧ l5.length ≤ 140737488355328 := by
  obtain ⟨cs, rfl, hsz⟩ := okWide_struct Tryz.underlying26 hval
  obtain ⟨fuel, hf0⟩ := h
  obtain ⟨xs, k, hk, hxy, hcl, hxl, hf⟩ := DataW.trod_struct Tryz.underlying26 hf0
  have c0 : Tryz.prog.cellsOf 26 = 6 := by kernel_rfl
  have c3 : Tryz.prog.cellsOf 3 = 1 := by kernel_rfl
  have c9 : Tryz.prog.cellsOf 9 = 1 := by kernel_rfl
  have c4 : Tryz.prog.cellsOf 4 = 1 := by kernel_rfl
  have cG : Tryz.prog.cellsOf 22 = 1 := by kernel_rfl
  have cL : Tryz.prog.cellsOf 23 = 1 := by kernel_rfl
  have cK : Tryz.prog.cellsOf 24 = 1 := by kernel_rfl
  have hcs : (Value.agg cs).cells.toList = cs.toList := by simp [Value.cells]
  rw [hcs] at hf hcl
  rw [c0] at hcl
  have hcc : cs = ⟨cs.toList⟩ := rfl
  generalize cs.toList = L at hf hcl hcc
  subst hcc
  match xs, hxl, L, hcl with
  | [y0, y1, y2, y3, y4, y5], _, [v0, v1, v2, v3, v4, v5], _ =>
    have g0 := hf 0 _ rfl
    have g1 := hf 1 _ rfl
    have g2 := hf 2 _ rfl
    have g3 := hf 3 _ rfl
    have g4 := hf 4 _ rfl
    have g5 := hf 5 _ rfl
    simp [c3, c9, c4, cG, cL, cK] at g0 g1 g2 g3 g4 g5
    obtain ⟨n0, e0, _⟩ := DataW.trod_string Tryz.underlying9 g0
    obtain ⟨n1, e1, _⟩ := DataW.trod_bool Tryz.underlying4 g1
    obtain ⟨n2, e2, _⟩ := DataW.trod_int Tryz.underlying3 g2
    obtain ⟨A3, c3', l3, e3, q3, r3, s3⟩ := dec_rows k31 Tryz.underlying22 (by kernel_rfl) decG g3
    obtain ⟨A4, c4', l4, e4, q4, r4, s4⟩ := dec_rows k86 Tryz.underlying23 (by kernel_rfl) decL g4
    obtain ⟨A5, c5', l5, e5, q5, r5, s5⟩ := dec_rows k76 Tryz.underlying24 (by kernel_rfl) decK g5
    cases e0; cases e1; cases e2; cases e3; cases e4; cases e5
    have hd0 : d0 = .agg [y0.1, y1.1, y2.1, y3.1, y4.1, y5.1] := (Prod.mk.inj hxy).1
    subst hd0
    have hw : DataW.weights Tryz.prog 26 (.agg [y0.1, y1.1, y2.1, y3.1, y4.1, y5.1] : DataW H) = DataW.weightsEach Tryz.prog [9, 4, 3, 22, 23, 24] [y0.1, y1.1, y2.1, y3.1, y4.1, y5.1] := by
      simp only [DataW.weights, Tryz.underlying26]
      rfl
    refine ⟨n0, n1, n2, A3, c3', l3, A4, c4', l4, A5, c5', l5, rfl, r3, q3, r4, q4, r5, q5, ?_, ?_, ?_⟩
    · rcases s3 with s | ⟨el, sp', h1, h2⟩
      · omega
      · rw [← h2]; exact len_of_weight (i := 3) hwt ht hd hw rfl (by rw [← h1]; rfl) Tryz.underlying22 (of_decide_eq_true (by kernel_rfl))
    · rcases s4 with s | ⟨el, sp', h1, h2⟩
      · omega
      · rw [← h2]; exact len_of_weight (i := 4) hwt ht hd hw rfl (by rw [← h1]; rfl) Tryz.underlying23 (of_decide_eq_true (by kernel_rfl))
    · rcases s5 with s | ⟨el, sp', h1, h2⟩
      · omega
      · rw [← h2]; exact len_of_weight (i := 5) hwt ht hd hw rfl (by rw [← h1]; rfl) Tryz.underlying24 (of_decide_eq_true (by kernel_rfl))
end
end Go.Proofs.YtaifemkokfoadaaGreatDoor

namespace Go.Proofs.YtaifemkokfoadaaGreatDoor
open Go.RowKit Go.ChangeShapes Go.WideShapes Go.Proofs.YtaifemkokfoadaaGreatDoorW.PrintWords
theorem iface_of_laid {P : Program} {w : World} {l : List (String × DataW Unit)} {n nm : String} {d : DataW Unit} {g : Nat} {t : TypeId} {ms : Array (String × TypeId)} (h : laidMet P l w) (hm : (n, .iface nm d) ∈ l)
    (hg : P.globalNamed n = some g) (ht : (P.globals[g]?).map (·.type) = some t) (hu : P.underlying t = some (.interface ms)) : ∃ tp p, w.var? P n = some #[.iface tp p] := by
  obtain ⟨g', t', cs, fuel, p, e1, e2, e3, e4⟩ := Lib.laidMet.reads h hm
  obtain rfl : g' = g := Option.some.inj (e1.symm.trans hg)
  obtain rfl : t' = t := Option.some.inj (e2.symm.trans ht)
  cases fuel with
  | zero => simp [DataW.trod] at e4
  | succ k =>
    unfold DataW.trod at e4
    rw [hu] at e4
    obtain ⟨cl⟩ := cs
    rw [e3]
    match cl, e4 with
    | [], e4 => simp at e4
    | [v], e4 =>
      cases v <;> simp at e4
      exact ⟨_, _, rfl⟩
    | _ :: _ :: _, e4 => simp at e4
theorem gw_of {W : World} {l : List (String × DataW Unit)} {ds : DataW Unit} {dr : DataW Unit} {n1 n2 : String} (h : laidMet Tryz.prog l W) (hsh : W.ShapedOpen Tryz.prog) (h1 : ("internal/strconv.uint64pow10", Lib.tabData .u64 Lib.pow10Tab) ∈ l) (h2 : ("strconv.ErrSyntax", .iface n1 ds) ∈ l) (h3 : ("strconv.ErrRange", .iface n2 dr) ∈ l) (h4 : ("strings.asciiSpace", Lib.tabData .u8 Lib.asciiSpaceTab) ∈ l) : GW W := by
  have htab : Lib.TabIs Tryz.prog W "internal/strconv.uint64pow10" .u64 Lib.pow10Tab := tabIs_of_laid (g := 7) (t := 244) (e := 186) (n := 20) (by kernel_rfl) (by kernel_rfl) Tryz.underlying244 Tryz.underlying186 (by kernel_rfl) (by kernel_rfl) h h1
  have hspc : Lib.TabIs Tryz.prog W "strings.asciiSpace" .u8 Lib.asciiSpaceTab := tabIs_of_laid (g := 0) (t := 140) (e := 5) (n := 256) (by kernel_rfl) (by kernel_rfl) Tryz.underlying140 Tryz.underlying5 (by kernel_rfl) (by kernel_rfl) h h4
  refine ⟨htab, iface_of_laid (g := 3) h h2 (by kernel_rfl) (t := 131) (by kernel_rfl) Tryz.underlying131, iface_of_laid (g := 4) h h3 (by kernel_rfl) (t := 131) (by kernel_rfl) Tryz.underlying131, hspc,
    cell_of_shapedOpen_int (t := 3) (zero := #[.int .i64 0]) hsh (of_decide_eq_true (by kernel_rfl)) (by kernel_rfl) rfl (by kernel_rfl) (by kernel_rfl) Tryz.underlying3, ?_⟩
  obtain ⟨o, _, h4, _⟩ := hsh.2 11 (of_decide_eq_true (by kernel_rfl)) (of_decide_eq_true (by kernel_rfl))
  rcases Nat.lt_or_ge 11 W.heap.size with h5 | h5
  · omega
  · rw [Array.getElem?_eq_none h5] at h4; cases h4
end Go.Proofs.YtaifemkokfoadaaGreatDoor
