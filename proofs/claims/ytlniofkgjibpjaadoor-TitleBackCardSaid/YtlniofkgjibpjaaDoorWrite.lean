/-
  title.Write returns the title of three parts, or refuses; parts of at most 3000 bytes together.
-/
import Derived.Test.YtlniofkgjibpjaaDoorLawPlaces
namespace Go.Proofs.YtlniofkgjibpjaaDoor
open Go.RowKit

def hasB (q : UInt8) (l : List UInt8) : Bool := l.contains q
def joinQ (q : UInt8) (a b c : List UInt8) : List UInt8 := a ++ (q :: (b ++ (q :: c)))
def bar (l : List UInt8) : ByteArray := ⟨l.toArray⟩
theorem bar_data (l : List UInt8) : (bar l).data.toList = l := rfl
theorem bar_size (l : List UInt8) : (bar l).size = l.length := by simp [bar, ByteArray.size]
theorem bar_of (s : ByteArray) : bar s.data.toList = s := by
  apply ByteArray.ext; apply Array.toList_inj.1; rfl
theorem bar_app (a b : List UInt8) : bar a ++ bar b = bar (a ++ b) := by
  apply ByteArray.ext; apply Array.toList_inj.1
  rw [ByteArray.data_append]; simp [bar]
theorem wrap_q (q : UInt8) (l : List UInt8) : (ByteArray.mk #[q] ++ bar l) ++ ByteArray.mk #[q] = bar (q :: (l ++ [q])) := by
  show (bar [q] ++ bar l) ++ bar [q] = _
  rw [bar_app, bar_app]; simp
theorem contains_q (l : List UInt8) (q : UInt8) (w : World) : Calls Tryd.prog 26 #[.string (bar l), .string ⟨#[q]⟩] w fun e w' => e = .returned (.bool (hasB q l)) ∧ w = w' := by
  refine (Tryd.strings_Contains_one (bar l) q w).mono fun e w' ⟨h1, h2⟩ => ⟨?_, h2.symm⟩
  rw [h1]; unfold hasB; rw [Lib.contains_iff_indexByte]; rfl
theorem join_e (b : Nat) (x y z : List UInt8) (w : World) (h : BlockIs w b 23 [.string (bar x), .string (bar y), .string (bar z)]) (hl : x.length + y.length + z.length ≤ 100000) :
    Calls Tryd.prog 25 #[.slice (some ⟨b, 0, none⟩) 3 3, .string ⟨#[]⟩] w fun e w' => e = .returned (.string (bar (x ++ y ++ z))) ∧ Below w.heap.size w w' := by
  refine (Tryd.strings_Join b 0 3 [bar x, bar y, bar z] ⟨#[]⟩ w ?_ h.inside (by simp) (by simp) ?_).mono fun e w' ⟨h1, h2⟩ => ⟨?_, h2⟩
  · intro j v hj
    rw [Nat.zero_add]
    rcases j with _ | _ | _ | j <;> simp at hj <;> subst hj
    · exact h.cellAt 0 _ rfl
    · exact h.cellAt 1 _ rfl
    · exact h.cellAt 2 _ rfl
  · simp [Lib.join, List.intercalate, bar_data]; omega
  · rw [h1]; simp [Lib.join, List.intercalate, bar]
theorem join_q (b : Nat) (x y z : List UInt8) (q : UInt8) (w : World) (h : BlockIs w b 23 [.string (bar x), .string (bar y), .string (bar z)]) (hl : x.length + y.length + z.length ≤ 100000) :
    Calls Tryd.prog 25 #[.slice (some ⟨b, 0, none⟩) 3 3, .string ⟨#[q]⟩] w fun e w' => e = .returned (.string (bar (joinQ q x y z))) ∧ Below w.heap.size w w' ∧ (bar (joinQ q x y z)).size ≤ 100002 := by
  refine (Tryd.strings_Join b 0 3 [bar x, bar y, bar z] ⟨#[q]⟩ w ?_ h.inside (by simp) (by simp) ?_).mono fun e w' ⟨h1, h2⟩ => ⟨?_, h2, by rw [bar_size]; simp [joinQ]; omega⟩
  · intro j v hj
    rw [Nat.zero_add]
    rcases j with _ | _ | _ | j <;> simp at hj <;> subst hj
    · exact h.cellAt 0 _ rfl
    · exact h.cellAt 1 _ rfl
    · exact h.cellAt 2 _ rfl
  · simp [Lib.join, List.intercalate, bar_data]; omega
  · rw [h1]; simp [Lib.join, List.intercalate, bar, joinQ]

/-- What Write answers. -/
def writeV (x y z : List UInt8) : List UInt8 × Int :=
  if textB ((x ++ y ++ z) ++ [49, 50, 51, 52]) = false then ([], 1) else
  match [39, 34, 47, 124, 126].find? (fun q => !hasB q (x ++ y ++ z)) with
  | some q => (q :: (joinQ q x y z ++ [q]), 0)
  | none => ([], 4)

set_option maxRecDepth 100000 in
set_option maxHeartbeats 1000000 in
theorem write_any (x y z : List UInt8) (w : World) (hl : x.length + y.length + z.length ≤ 3000) :
    Calls Tryd.prog 14 #[.agg #[.string (bar x), .string (bar y), .string (bar z)]] w fun e w' => e = .returned (.tuple #[.string (bar (writeV x y z).1), .int .i64 (writeV x y z).2]) ∧ Below w.heap.size w w' := by
  have hall : (x ++ y ++ z).length ≤ 3000 := by simp; omega
  have hV : writeV x y z = (if textB ((x ++ y ++ z) ++ [49, 50, 51, 52]) = false then (([] : List UInt8), (1 : Int)) else
    match ([39, 34, 47, 124, 126] : List UInt8).find? (fun q => !hasB q (x ++ y ++ z)) with
    | some q => (q :: (joinQ q x y z ++ [q]), 0)
    | none => ([], 4)) := rfl
  generalize hA : x ++ y ++ z = A at hall hV
  have HA := Lib.hid hA
  have HV := Lib.hid hV
  have f : ∀ W, Calls Tryd.prog 20 #[.string (bar A ++ ⟨#[49, 50, 51, 52]⟩)] W (fun e w' => e = .returned (.bool (textB (A ++ [49, 50, 51, 52]))) ∧ W = w') := fun W => fits_any (bar (A ++ [49, 50, 51, 52])) W (by rw [bar_size]; simp; omega)
  have FI := Lib.hid f
  have hsz : (bar A).size ≤ 3000 := by rw [bar_size]; omega
  clear hA hV f
  cases hT : textB (A ++ [49, 50, 51, 52]) with
  | false =>
    rw [hT] at FI
    have HT := Lib.hid hT
    clear hT
    go_enter Tryd.func14, Tryd.ntmps14
    go_wp2_with fail
    refine (join_e w.heap.size x y z _ (BlockIs.fresh w 23 [.string (bar x), .string (bar y), .string (bar z)]) (by omega)).mono ?_
    rw [HA.out]
    rintro e w1 ⟨rfl, hb1⟩
    simp only [World.size_alloc] at hb1
    have hB1 : Below w.heap.size w w1 := (by go_grown : Below w.heap.size w _).trans (hb1.mono (by omega))
    go_wp2_with (go_at_call 20; refine (FI.out _).mono ?_; rintro e w' ⟨rfl, rfl⟩)
    go_ret2
    exact ⟨by rw [HV.out, HT.out]; rfl, hB1⟩
  | true =>
    rw [hT] at FI
    have HT := Lib.hid hT
    clear hT
    go_enter Tryd.func14, Tryd.ntmps14
    go_wp2_with fail
    refine (join_e w.heap.size x y z _ (BlockIs.fresh w 23 [.string (bar x), .string (bar y), .string (bar z)]) (by omega)).mono ?_
    rw [HA.out]
    rintro e w1 ⟨rfl, hb1⟩
    have b1 := (BlockIs.fresh w 23 [.string (bar x), .string (bar y), .string (bar z)]).under hb1 (by simp)
    have hz1 := hb1.size
    simp only [World.size_alloc] at hz1 hb1
    have hB1 : Below w.heap.size w w1 := (by go_grown : Below w.heap.size w _).trans (hb1.mono (by omega))
    have B1 := Lib.hid b1
    clear b1 hb1
    go_wp2_with (go_at_call 20; refine (FI.out _).mono ?_; rintro e w' ⟨rfl, rfl⟩)
    refine wp_loop_rounds 6 ?_
    repeat any_goals (rw [rounds_succ]; go_wp2_with (first | (go_at_call 26; refine (contains_q A _ _).mono ?_; rintro e w' ⟨rfl, rfl⟩) | (go_at_call 25; refine (join_q w.heap.size x y z _ _ (B1.out.past _) (by omega)).mono ?_; rintro e w2 ⟨rfl, hb2, hjs⟩)))
    all_goals go_ret2
    all_goals refine ⟨?_, ?_⟩
    all_goals first
      | (refine hB1.trans ((by go_grown : Below w.heap.size w1 _).trans (hb2.mono (by simp only [World.size_alloc]; omega))))
      | (exact hB1.trans (by go_grown))
      | (rw [HV.out, HT.out]; simp [*]; exact wrap_q _ _)
      | (rw [HV.out, HT.out]; simp [*]; rfl)
end Go.Proofs.YtlniofkgjibpjaaDoor
