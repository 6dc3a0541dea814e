/-
  A nil book's methods: each refuses. No condition.
-/
import Derived.Test.YtajbpjojockgoaaGreatDoorSane
namespace Go.Proofs.YtajbpjojockgoaaGreatDoor
open Go.RowKit

set_option maxRecDepth 100000 in
theorem nil_none (w : World) : Calls Tryz.prog 33 #[.pointer none] w fun e w' => e = .returned (.bool true) ∧ Below w.heap.size w w' := by
  go_enter Tryz.func33, Tryz.ntmps33
  go_wp2
  go_ret
  exact ⟨rfl, Below.refl _ _⟩
set_option maxRecDepth 100000 in
theorem nil_ask (s : ByteArray) (ok : Bool) (err : Int) (w : World) : Calls Tryz.prog 25 #[.pointer none, .string s, .bool ok, .int .i64 err] w fun e w' => e = .returned (.int .i64 1) ∧ Below w.heap.size w w' := by
  go_enter Tryz.func25, Tryz.ntmps25
  go_wp2_with (go_at_call 33; refine (nil_none _).mono ?_; rintro e w1 ⟨rfl, hb⟩)
  go_ret
  exact ⟨rfl, hb⟩
set_option maxRecDepth 100000 in
theorem nil_Value (s : ByteArray) (w : World) : Calls Tryz.prog 17 #[.pointer none, .string s] w fun e w' => e = .returned (.tuple #[.int .i64 0, .int .i64 1]) ∧ Below w.heap.size w w' := by
  go_enter Tryz.func17, Tryz.ntmps17
  go_wp2_with (go_at_call 25; refine (nil_ask _ _ _ _).mono ?_; rintro e w1 ⟨rfl, hb⟩)
  go_ret2
  exact ⟨rfl, hb⟩
set_option maxRecDepth 100000 in
theorem nil_FormatOf (s : ByteArray) (w : World) : Calls Tryz.prog 19 #[.pointer none, .string s] w fun e w' => e = .returned (.tuple #[.string ⟨#[]⟩, .int .i64 1]) ∧ Below w.heap.size w w' := by
  go_enter Tryz.func19, Tryz.ntmps19
  go_wp2_with (go_at_call 25; refine (nil_ask _ _ _ _).mono ?_; rintro e w1 ⟨rfl, hb⟩)
  go_ret2
  exact ⟨rfl, hb⟩
set_option maxRecDepth 100000 in
theorem nil_Text (s : ByteArray) (w : World) : Calls Tryz.prog 18 #[.pointer none, .string s] w fun e w' => e = .returned (.tuple #[.string ⟨#[]⟩, .int .i64 1]) ∧ Below w.heap.size w w' := by
  go_enter Tryz.func18, Tryz.ntmps18
  go_wp2_with (go_at_call 19; refine (nil_FormatOf _ _).mono ?_; rintro e w1 ⟨rfl, hb⟩)
  go_ret2
  exact ⟨rfl, hb⟩
set_option maxRecDepth 100000 in
theorem nil_Move (s : ByteArray) (up : Bool) (w : World) : Calls Tryz.prog 20 #[.pointer none, .string s, .bool up] w fun e w' => e = .returned (.tuple #[.int .i64 0, .int .i64 1]) ∧ Below w.heap.size w w' := by
  go_enter Tryz.func20, Tryz.ntmps20
  go_wp2_with (go_at_call 25; refine (nil_ask _ _ _ _).mono ?_; rintro e w1 ⟨rfl, hb⟩)
  go_ret2
  exact ⟨rfl, hb⟩
set_option maxRecDepth 100000 in
theorem nil_Remove (s : ByteArray) (w : World) : Calls Tryz.prog 21 #[.pointer none, .string s] w fun e w' => e = .returned (.int .i64 1) ∧ Below w.heap.size w w' := by
  go_enter Tryz.func21, Tryz.ntmps21
  go_wp2_with (go_at_call 25; refine (nil_ask _ _ _ _).mono ?_; rintro e w1 ⟨rfl, hb⟩)
  go_ret
  exact ⟨rfl, hb⟩
set_option maxRecDepth 100000 in
theorem nil_Has (s : ByteArray) (w : World) : Calls Tryz.prog 12 #[.pointer none, .string s] w fun e w' => e = .returned (.bool false) ∧ Below w.heap.size w w' := by
  go_enter Tryz.func12, Tryz.ntmps12
  go_wp2_with (go_at_call 33; refine (nil_none _).mono ?_; rintro e w1 ⟨rfl, hb⟩)
  go_ret
  exact ⟨rfl, hb⟩
set_option maxRecDepth 100000 in
theorem nil_Names (w : World) : Calls Tryz.prog 13 #[.pointer none] w fun e w' => e = .returned (.slice none 0 0) ∧ Below w.heap.size w w' := by
  go_enter Tryz.func13, Tryz.ntmps13
  go_wp2_with (go_at_call 33; refine (nil_none _).mono ?_; rintro e w1 ⟨rfl, hb⟩)
  go_ret
  exact ⟨rfl, hb⟩
set_option maxRecDepth 100000 in
theorem nil_Copy (w : World) : Calls Tryz.prog 23 #[.pointer none] w fun e w' => e = .returned (.pointer none) ∧ Below w.heap.size w w' := by
  go_enter Tryz.func23, Tryz.ntmps23
  go_wp2_with (go_at_call 33; refine (nil_none _).mono ?_; rintro e w1 ⟨rfl, hb⟩)
  go_ret
  exact ⟨rfl, hb⟩
set_option maxRecDepth 100000 in
theorem nil_Set (s : ByteArray) (n : Int) (w : World) : Calls Tryz.prog 8 #[.pointer none, .string s, .int .i64 n] w fun e w' => e = .returned (.int .i64 1) ∧ Below w.heap.size w w' := by
  go_enter Tryz.func8, Tryz.ntmps8
  go_wp2_with fail
  refine (held_any n _).mono ?_; rintro e w1 ⟨rfl, rfl⟩
  go_wp2_with fail
  refine (nil_ask _ _ _ _).mono ?_; rintro e w1 ⟨rfl, hb⟩
  go_wp2_with fail
  go_ret
  exact ⟨rfl, ((Below.refl _ _).alloc (Nat.le_refl _) _).trans (hb.mono (by simp))⟩
set_option maxRecDepth 100000 in
theorem nil_Step (s : ByteArray) (n : Int) (w : World) : Calls Tryz.prog 10 #[.pointer none, .string s, .int .i64 n] w fun e w' => e = .returned (.int .i64 1) ∧ Below w.heap.size w w' := by
  go_enter Tryz.func10, Tryz.ntmps10
  go_wp2_with fail
  refine (held_any n _).mono ?_; rintro e w1 ⟨rfl, rfl⟩
  go_wp2_with fail
  refine (nil_ask _ _ _ _).mono ?_; rintro e w1 ⟨rfl, hb⟩
  go_wp2_with fail
  go_ret
  exact ⟨rfl, ((Below.refl _ _).alloc (Nat.le_refl _) _).trans (hb.mono (by simp))⟩
/-- format answers something, whatever the text. -/
theorem format_all (s : ByteArray) (w : World) : Calls Tryz.prog 31 #[.string s] w fun e w' => (∃ v, e = .returned (.bool v)) ∧ Below w.heap.size w w' := by
  by_cases h : s.size ≤ 1000000000
  · have := format_any s.data.toList w (by rw [Array.length_toList]; exact h)
    rw [bar_of] at this
    exact this.mono fun e w' ⟨h1, h2⟩ => ⟨⟨_, h1⟩, h2⟩
  · have k : ∀ b : UInt8, (s.toList == [b]) = false := fun b => by
      rw [Lib.toList_data]
      refine beq_eq_false_iff_ne.2 fun e => h ?_
      have : s.data.toList.length = s.size := Array.length_toList
      rw [e] at this
      simp at this; omega
    exact (format_long s w (k _) (k _) (k _) (k _) (.inr ⟨by omega, by omega⟩)).mono fun e w' ⟨h1, h2⟩ => ⟨⟨_, h1⟩, h2⟩
set_option maxRecDepth 100000 in
theorem nil_Format (s t : ByteArray) (w : World) : Calls Tryz.prog 11 #[.pointer none, .string s, .string t] w fun e w' => e = .returned (.int .i64 1) ∧ Below w.heap.size w w' := by
  go_enter Tryz.func11, Tryz.ntmps11
  go_wp2_with fail
  refine (format_all t _).mono ?_; rintro e w1 ⟨⟨v, rfl⟩, hb1⟩
  go_wp2_with fail
  refine (nil_ask _ _ _ _).mono ?_; rintro e w2 ⟨rfl, hb⟩
  go_wp2_with fail
  go_ret
  exact ⟨rfl, (((Below.refl _ _).alloc (Nat.le_refl _) _).trans (hb1.mono (by simp))).trans (hb.mono (by have := hb1.size; simp at this; omega))⟩

/-- A rune that a name may not have. -/
def badRune (x : Nat) : Bool := decide (x < 33) || decide (126 < x) || decide (x = 93)
set_option maxRecDepth 100000 in
theorem rune_calls (x : Nat) (hx : x ≤ 1114111) (w : World) : Calls Tryz.prog 69 #[.int .i32 (x : Int)] w fun e w' => e = .returned (.bool (badRune x)) ∧ Below w.heap.size w w' := by
  unfold badRune
  by_cases h1 : (x : Int) < 33
  · have e1 : decide (x < 33) = true := decide_eq_true (by omega)
    rw [e1]
    clear e1
    go_enter Tryz.func69, Tryz.ntmps69
    go_wp2
    go_ret
    exact ⟨by simp, Below.refl _ _⟩
  · have e1 : decide (x < 33) = false := decide_eq_false (by omega)
    rw [e1]
    clear e1
    by_cases h2 : (126 : Int) < x
    · have e2 : decide (126 < x) = true := decide_eq_true (by omega)
      rw [e2]
      clear e2
      go_enter Tryz.func69, Tryz.ntmps69
      go_wp2
      go_ret
      exact ⟨by simp, Below.refl _ _⟩
    · have e2 : decide (126 < x) = false := decide_eq_false (by omega)
      rw [e2]
      clear e2
      go_enter Tryz.func69, Tryz.ntmps69
      go_wp2
      go_ret
      exact ⟨by rw [show ((x : Int) == 93) = decide (x = 93) from by rw [Bool.eq_iff_iff]; simp; omega]; rfl, Below.refl _ _⟩
/-- What names may be. -/
def nameB (s : ByteArray) : Bool := decide (1 ≤ s.size) && decide (s.size ≤ 20) && !decide (0 ≤ Lib.idxFunc badRune true s)
set_option maxRecDepth 100000 in
theorem named_any (s : ByteArray) (w : World) : Calls Tryz.prog 46 #[.string s] w fun e w' => e = .returned (.bool (nameB s)) ∧ Below w.heap.size w w' := by
  have hc := Tryz.strings_ContainsFunc_grows 69 #[] (enters_of Tryz.func69 (by kernel_rfl) rfl) badRune s w (fun W x hx _ => rune_calls x hx W)
  unfold nameB
  generalize decide (0 ≤ Lib.idxFunc badRune true s) = v at hc ⊢
  by_cases h1 : 1 ≤ s.size
  · by_cases h2 : s.size ≤ 20
    · go_enter Tryz.func46, Tryz.ntmps46
      go_wp2_with fail
      refine hc.mono ?_; rintro e w1 ⟨rfl, hb⟩
      go_wp2_with fail
      go_ret
      exact ⟨by simp [h1, h2], hb⟩
    · go_enter Tryz.func46, Tryz.ntmps46
      go_wp2_with fail
      go_ret
      exact ⟨by simp, Below.refl _ _⟩
  · go_enter Tryz.func46, Tryz.ntmps46
    go_wp2_with fail
    go_ret
    exact ⟨by simp, Below.refl _ _⟩
set_option maxRecDepth 100000 in
theorem nil_Rename (s t : ByteArray) (w : World) : Calls Tryz.prog 22 #[.pointer none, .string s, .string t] w fun e w' => e = .returned (.int .i64 1) ∧ Below w.heap.size w w' := by
  go_enter Tryz.func22, Tryz.ntmps22
  go_wp2_with fail
  refine (named_any t _).mono ?_; rintro e w1 ⟨rfl, hb1⟩
  go_wp2_with fail
  refine (nil_ask _ _ _ _).mono ?_; rintro e w2 ⟨rfl, hb⟩
  go_wp2_with fail
  go_ret
  exact ⟨rfl, belowThen hb1 hb⟩

set_option maxRecDepth 100000 in
set_option maxHeartbeats 2000000 in
theorem lawNil (name form : ByteArray) (n : Int) (w : World) (ht : Tabs w) :
    Calls Tryz.prog 5 #[.string name, .string form, .int .i64 n] w fun e w' => e = .returned (.bool true) ∧ Below w.heap.size w w' := by
  go_enter Tryz.func5, Tryz.ntmps5
  go_wp2_with fail
  refine (nil_Value _ _).mono ?_; rintro e w1 ⟨rfl, hb⟩
  go_wp2_with fail
  refine (nil_Text _ _).mono ?_; rintro e w2 ⟨rfl, hb2⟩
  have hb := belowThen hb hb2; clear hb2
  go_wp2_with fail
  refine (nil_FormatOf _ _).mono ?_; rintro e w3 ⟨rfl, hb2⟩
  have hb := belowThen hb hb2; clear hb2
  go_wp2_with fail
  refine (nil_Move _ _ _).mono ?_; rintro e w4 ⟨rfl, hb2⟩
  have hb := belowThen hb hb2; clear hb2
  go_wp2_with fail
  refine (nil_Set _ _ _).mono ?_; rintro e w5 ⟨rfl, hb2⟩
  have hb := belowThen hb hb2; clear hb2
  go_wp2_with fail
  refine (nil_Step _ _ _).mono ?_; rintro e w6 ⟨rfl, hb2⟩
  have hb := belowThen hb hb2; clear hb2
  go_wp2_with fail
  refine (nil_Format _ _ _).mono ?_; rintro e w7 ⟨rfl, hb2⟩
  have hb := belowThen hb hb2; clear hb2
  go_wp2_with fail
  refine (nil_Remove _ _).mono ?_; rintro e w8 ⟨rfl, hb2⟩
  have hb := belowThen hb hb2; clear hb2
  go_wp2_with fail
  refine (nil_Rename _ _ _).mono ?_; rintro e w9 ⟨rfl, hb2⟩
  have hb := belowThen hb hb2; clear hb2
  go_wp2_with fail
  refine (nil_Has _ _).mono ?_; rintro e w10 ⟨rfl, hb2⟩
  have hb := belowThen hb hb2; clear hb2
  go_wp2_with fail
  refine (nil_Names _).mono ?_; rintro e w11 ⟨rfl, hb2⟩
  have hb := belowThen hb hb2; clear hb2
  go_wp2_with fail
  refine (nil_Copy _).mono ?_; rintro e w12 ⟨rfl, hb2⟩
  have hb := belowThen hb hb2; clear hb2
  go_wp2_with fail
  refine (sane_any _ (ht.under hb)).mono ?_; rintro e w13 ⟨rfl, hb2⟩
  have hb := belowThen hb hb2; clear hb2
  go_wp2_with fail
  go_ret
  exact ⟨rfl, hb⟩
end Go.Proofs.YtajbpjojockgoaaGreatDoor
