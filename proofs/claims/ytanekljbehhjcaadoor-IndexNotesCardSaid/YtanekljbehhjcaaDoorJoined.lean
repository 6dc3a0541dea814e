/-
  Texts and numbers, one behind the other. No condition.
-/
import Derived.Test.YtanekljbehhjcaaDoorGw
import Derived.Outline
import Derived.Lib.Hide
import Derived.WalkSpells
import Derived.WalkLawsBesides
namespace Go.Proofs.YtanekljbehhjcaaDoor
open Go.RowKit Go.Proofs.YtanekljbehhjcaaDoorW.PrintWords

/-- A text or a number, as 'any' holds it; its text. -/
def encP : ByteArray ⊕ Int → Value
  | .inl s => .iface 9 (.string s)
  | .inr n => .iface 3 (.int .i64 n)
def txt1 : ByteArray ⊕ Int → List UInt8
  | .inl s => s.data.toList
  | .inr n => Lib.itoa n
def txtP (ps : List (ByteArray ⊕ Int)) : List UInt8 := (ps.map txt1).flatten
theorem txtP_snoc (ps : List (ByteArray ⊕ Int)) (k : Nat) (x : ByteArray ⊕ Int) (h : ps[k]? = some x) : txtP (ps.take (k + 1)) = txtP (ps.take k) ++ txt1 x := by
  unfold txtP
  rw [List.take_add_one, h]; simp
theorem txtP_le (ps : List (ByteArray ⊕ Int)) (k : Nat) : (txtP (ps.take k)).length ≤ (txtP ps).length := by
  have : txtP ps = txtP (ps.take k) ++ txtP (ps.drop k) := by
    unfold txtP; rw [← List.flatten_append, ← List.map_append, List.take_append_drop]
  rw [this, List.length_append]; omega
theorem txt1_len (s : ByteArray) : (txt1 (.inl s)).length = s.size := Array.length_toList
theorem byteCells_len (l : List UInt8) : (Lib.byteCells l).length = l.length := by simp [Lib.byteCells]
theorem builder_below {T e : TypeId} {B b : Nat} {bs : List Value} {w w' : World} (h : Lib.IsBuilder T e B b bs w) (hb : Below w.heap.size w w') : Lib.IsBuilder T e B b bs w' := by
  have key : ∀ p, Lib.BuilderAt T e B b p bs w → Lib.BuilderAt T e B b p bs w' := fun p ⟨h1, v, h2, h3, h4⟩ => ⟨h1, v, (hb.block b (Array.getElem?_eq_some_iff.1 h2).1).trans h2, pw_own_below h3 hb, h4⟩
  exact h.imp (key _) (key _)
theorem strCells_bar (l : List UInt8) : Lib.strCells (bar l) = Lib.byteCells l := rfl

set_option maxRecDepth 100000 in
set_option maxHeartbeats 2000000 in
theorem joined_calls (ps : List (ByteArray ⊕ Int)) (g off c : Nat) (w : World) (hG : GW w) (hn : ∀ n, .inr n ∈ ps → -9223372036854775808 ≤ n ∧ n ≤ 9223372036854775807)
    (hc : ∀ j x, ps[j]? = some x → w.cell? ⟨g, off + j, none⟩ = some (encP x)) (hg : g < w.heap.size) (hp : ps.length ≤ 1000000) (hlen : (txtP ps).length ≤ 140737488355328) :
    Calls Tryd.prog 25 #[.slice (some ⟨g, off, none⟩) ps.length c] w fun e w' => e = .returned (.string (bar (txtP ps))) ∧ Below w.heap.size w w' := by
  have ta1 : ∀ (s : ByteArray) (W : World), (Instr.typeAssert (.iface 9 (.string s)) 20 9 true).run Tryd.prog W = .ok (.tuple #[.string s, .bool true]) W := fun _ _ => by rfl
  have ta2 : ∀ (n : Int) (W : World), (Instr.typeAssert (.iface 3 (.int .i64 n)) 20 9 true).run Tryd.prog W = .ok (.tuple #[.string ⟨#[]⟩, .bool false]) W := fun _ _ => by rfl
  have ta3 : ∀ (n : Int) (W : World), (Instr.typeAssert (.iface 3 (.int .i64 n)) 20 3 true).run Tryd.prog W = .ok (.tuple #[.int .i64 n, .bool true]) W := fun _ _ => by rfl
  go_enter Tryd.func25, Tryd.ntmps25
  go_wp2_with fail
  go_loopw [10] (fun i wr => ∃ k : Nat, k ≤ ps.length ∧ i = .int .i64 k ∧ Lib.IsBuilder 79 5 w.heap.size w.heap.size (Lib.byteCells (txtP (ps.take k))) wr ∧ Below w.heap.size w wr) (fun i _ => ps.length - (intOf i).toNat)
  case atStart =>
    refine ⟨0, Nat.zero_le _, rfl, .inl ?_, (Below.refl _ _).alloc (Nat.le_refl _) _⟩
    exact ⟨Nat.le_refl _, .slice none 0 0, World.alloc_heap_new w _, World.ownsRow_nil _ _ _ _, by simp [Value.ownBlock]⟩
  case round =>
    obtain ⟨k, hk, rfl, hB, hb⟩ := hrel
    have HB := Lib.hid hB
    clear hB
    by_cases hlt : k < ps.length
    · have hx := List.getElem?_eq_getElem hlt
      have hcell : wr.cell? ⟨g, off + k, none⟩ = some (encP ps[k]) := (hb.cell (p := ⟨g, off + k, none⟩) hg).trans (hc k _ hx)
      have hsnoc := txtP_snoc ps k _ hx
      have hle := txtP_le ps (k + 1)
      rw [hsnoc, List.length_append] at hle
      have HS := Lib.hid hsnoc
      clear hsnoc
      have hmem : ps[k] ∈ ps := List.getElem_mem hlt
      have hz := hb.size
      have hG2 := hG.under hb
      generalize ps[k] = x at hx hcell HS hle hmem
      clear hx
      cases x with
      | inl s =>
        have e1 := txt1_len s
        have hw := Tryd.Builder_WriteString w.heap.size w.heap.size _ s wr HB.out (by rw [byteCells_len]; omega) hz
        clear e1
        simp only [encP] at hcell
        clear hle hmem HB
        go_wp2_with fail
        refine hw.mono ?_; rintro e w2 ⟨rfl, hB2, hb2⟩
        go_wp2_with fail
        go_roundw
        case rel => exact ⟨k + 1, by omega, by go_num, by rw [HS.out]; exact .inr (by simpa [Lib.byteCells, Lib.strCells, txt1] using hB2), hb.trans hb2⟩
        case measure => simp [intOf]; omega
      | inr n =>
        obtain ⟨n0, n1⟩ := hn n hmem
        have hi := itoa_any n wr n0 n1 hG2
        simp only [encP] at hcell
        have hl1 : (txtP (ps.take k)).length + (Lib.itoa n).length ≤ 140737488355328 := Nat.le_trans hle hlen
        clear hle hmem
        go_wp2_with fail
        refine hi.mono ?_; rintro e w2 ⟨rfl, hb2⟩
        have hB2 : Lib.IsBuilder 79 5 w.heap.size w.heap.size (Lib.byteCells (txtP (ps.take k))) w2 := builder_below HB.out hb2
        have hw := Tryd.Builder_WriteString w.heap.size w.heap.size _ (bar (Lib.itoa n)) w2 hB2 (by rw [byteCells_len, bar_size]; exact hl1) (Nat.le_trans hz hb2.size)
        clear hB2
        go_wp2_with fail
        refine hw.mono ?_; rintro e w3 ⟨rfl, hB3, hb3⟩
        go_wp2_with fail
        go_roundw
        case rel => exact ⟨k + 1, by omega, by go_num, by rw [HS.out]; exact .inr (by simpa [Lib.byteCells, Lib.strCells, txt1, bar_data] using hB3), (hb.trans (hb2.mono hz)).trans hb3⟩
        case measure => simp [intOf]; omega
    · obtain rfl : k = ps.length := by omega
      rw [List.take_length] at HB
      have hs := Tryd.Builder_String_any w.heap.size w.heap.size _ wr HB.out hb.size
      clear HB
      go_wp2_with fail
      refine hs.mono ?_; rintro e w2 ⟨rfl, hb2⟩
      go_wp2_with fail
      go_ret
      exact ⟨rfl, hb.trans hb2⟩
end Go.Proofs.YtanekljbehhjcaaDoor
