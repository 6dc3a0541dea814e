/-
  register.text: what it computes.
-/
import Derived.Test.YtajbpjojockgoaaGreatDoorRoman
import Derived.WalkSmall
namespace Go.Proofs.YtajbpjojockgoaaGreatDoor
open Go.RowKit

/-- strconv's table lies there. -/
structure Tabs (w : World) : Prop where
  tab : Lib.TabIs Tryz.prog w "internal/strconv.uint64pow10" .u64 Lib.pow10Tab
  inside : 3 < w.heap.size
theorem Tabs.under {w w' : World} (h : Tabs w) (hb : Below w.heap.size w w') : Tabs w' := ⟨var?_below hb (by kernel_rfl) h.inside h.tab, Nat.lt_of_lt_of_le h.inside hb.size⟩
theorem growBelow (w : World) (k : Nat) (os : Array Obj) : Below w.heap.size w (Sort.grow (w.drewN k) os) := by
  refine ⟨rfl, rfl, rfl, by simp [Sort.grow, World.drewN], fun i hi => ?_⟩
  show ((w.drewN k).heap ++ os)[i]? = _
  rw [Array.getElem?_append_left (by simpa [World.drewN] using hi)]
  rfl
theorem itoaNat (n : Nat) (w : World) (h1 : n ≤ 9223372036854775807) (ht : Tabs w) :
    Calls Tryz.prog 62 #[.int .i64 n] w fun e w' => e = .returned (.string (bar (Lib.decDigits n))) ∧ Below w.heap.size w w' :=
  (Tryz.strconv_Itoa n (by omega) (by omega) w ht.tab).mono fun e w' ⟨h1, k, os, h2⟩ => ⟨by rw [h1, show Lib.itoa (n : Int) = Lib.decDigits n from by unfold Lib.itoa; rw [if_neg (by omega)]; rfl]; rfl, by rw [h2]; exact growBelow w k os⟩

set_option maxRecDepth 100000 in
set_option maxHeartbeats 2000000 in
theorem text_i0 (M : Int) (w : World) (hM : M ≤ 1000000000) (h0 : 0 < M) (h1 : M < 40000) (d r : ByteArray) (s : ByteArray) (k1 : s.toList = [105])
    (hI : Calls Tryz.prog 62 #[.int .i64 M] w fun e w' => e = .returned (.string d) ∧ Below w.heap.size w w')
    (hR : ∀ w, Calls Tryz.prog 65 #[.int .i64 M] w fun e w' => e = .returned (.string r) ∧ Below w.heap.size w w') :
    Calls Tryz.prog 45 #[.int .i64 M, .string s] w fun e w' => e = .returned (.string r) ∧ Below w.heap.size w w' := by
  go_enter Tryz.func45, Tryz.ntmps45
  go_wp2_with (first | (go_at_call 62; refine hI.mono ?_; rintro e w1 ⟨rfl, hb⟩) | (go_at_call 65; refine (hR _).mono ?_; rintro e w2 ⟨rfl, hb2⟩))
  go_ret
  exact ⟨rfl, belowThen hb hb2⟩
set_option maxRecDepth 100000 in
set_option maxHeartbeats 2000000 in
theorem text_i1 (M : Int) (w : World) (hM : M ≤ 1000000000) (h0 : 0 ≤ M) (h1 : ¬ (0 < M ∧ M < 40000)) (d : ByteArray) (s : ByteArray) (k1 : s.toList = [105])
    (hI : Calls Tryz.prog 62 #[.int .i64 M] w fun e w' => e = .returned (.string d) ∧ Below w.heap.size w w') :
    Calls Tryz.prog 45 #[.int .i64 M, .string s] w fun e w' => e = .returned (.string d) ∧ Below w.heap.size w w' := by
  by_cases h2 : 0 < M
  · have h3 : ¬ M < 40000 := fun h => h1 ⟨h2, h⟩
    clear h1
    go_enter Tryz.func45, Tryz.ntmps45
    go_wp2_with (go_at_call 62; refine hI.mono ?_; rintro e w1 ⟨rfl, hb⟩)
    go_ret
    exact ⟨rfl, hb⟩
  · clear h1
    go_enter Tryz.func45, Tryz.ntmps45
    go_wp2_with (go_at_call 62; refine hI.mono ?_; rintro e w1 ⟨rfl, hb⟩)
    go_ret
    exact ⟨rfl, hb⟩
theorem text_i (N : Nat) (w : World) (hN : N ≤ 1000000000) (ht : Tabs w) (s : ByteArray) (k1 : s.toList = [105]) :
    Calls Tryz.prog 45 #[.int .i64 N, .string s] w fun e w' => e = .returned (.string (bar (textB N [105]))) ∧ Below w.heap.size w w' := by
  by_cases h : 0 < N ∧ N < 40000
  · rw [show textB N [105] = romL N from by unfold textB; rw [if_pos rfl, if_pos h]]
    exact text_i0 N w (by omega) (by omega) (by omega) _ _ s k1 (itoaNat N w (by omega) ht) (fun w => roman_any N w h.2)
  · rw [show textB N [105] = Lib.decDigits N from by unfold textB; rw [if_pos rfl, if_neg h]]
    exact text_i1 N w (by omega) (by omega) (by omega) _ s k1 (itoaNat N w (by omega) ht)

set_option maxRecDepth 100000 in
set_option maxHeartbeats 2000000 in
theorem text_a0 (M : Int) (w : World) (hM : M ≤ 1000000000) (h0 : 0 < M) (d r : ByteArray) (s : ByteArray) (k1 : s.toList = [97])
    (hI : Calls Tryz.prog 62 #[.int .i64 M] w fun e w' => e = .returned (.string d) ∧ Below w.heap.size w w')
    (hR : ∀ w, Calls Tryz.prog 66 #[.int .i64 M] w fun e w' => e = .returned (.string r) ∧ Below w.heap.size w w') :
    Calls Tryz.prog 45 #[.int .i64 M, .string s] w fun e w' => e = .returned (.string r) ∧ Below w.heap.size w w' := by
  go_enter Tryz.func45, Tryz.ntmps45
  go_wp2_with (first | (go_at_call 62; refine hI.mono ?_; rintro e w1 ⟨rfl, hb⟩) | (go_at_call 66; refine (hR _).mono ?_; rintro e w2 ⟨rfl, hb2⟩))
  go_ret
  exact ⟨rfl, belowThen hb hb2⟩
set_option maxRecDepth 100000 in
set_option maxHeartbeats 2000000 in
theorem text_a1 (w : World) (d : ByteArray) (s : ByteArray) (k1 : s.toList = [97])
    (hI : Calls Tryz.prog 62 #[.int .i64 0] w fun e w' => e = .returned (.string d) ∧ Below w.heap.size w w') :
    Calls Tryz.prog 45 #[.int .i64 0, .string s] w fun e w' => e = .returned (.string d) ∧ Below w.heap.size w w' := by
  go_enter Tryz.func45, Tryz.ntmps45
  go_wp2_with (go_at_call 62; refine hI.mono ?_; rintro e w1 ⟨rfl, hb⟩)
  go_ret
  exact ⟨rfl, hb⟩
theorem text_a (N : Nat) (w : World) (hN : N ≤ 1000000000) (ht : Tabs w) (s : ByteArray) (k1 : s.toList = [97]) :
    Calls Tryz.prog 45 #[.int .i64 N, .string s] w fun e w' => e = .returned (.string (bar (textB N [97]))) ∧ Below w.heap.size w w' := by
  by_cases h : 0 < N
  · rw [show textB N [97] = letL N from by unfold textB; rw [if_neg (by decide), if_pos rfl, if_pos h]]
    exact text_a0 N w (by omega) (by omega) _ _ s k1 (itoaNat N w (by omega) ht) (fun w => letters_any N w hN)
  · obtain rfl : N = 0 := by omega
    rw [show textB 0 [97] = Lib.decDigits 0 from by unfold textB; rw [if_neg (by decide), if_pos rfl, if_neg h]]
    exact text_a1 w _ s k1 (itoaNat 0 w (by omega) ht)
set_option maxRecDepth 100000 in
set_option maxHeartbeats 2000000 in
theorem text_d0 (M : Int) (w : World) (hM : M ≤ 1000000000) (h0 : 0 ≤ M) (d r : ByteArray) (s : ByteArray) (k1 : (s.toList == [105]) = false) (k2 : (s.toList == [73]) = false) (k3 : (s.toList == [97]) = false) (k4 : (s.toList == [65]) = false)
    (hs : s.size ≤ 9) (hd : d.size ≤ 20) (hr : r.size ≤ 9)
    (hI : Calls Tryz.prog 62 #[.int .i64 M] w fun e w' => e = .returned (.string d) ∧ Below w.heap.size w w')
    (hR : ∀ w n, n = max 0 ((s.size : Int) - d.size) → Calls Tryz.prog 67 #[.string ⟨#[48]⟩, .int .i64 n] w fun e w' => e = .returned (.string r) ∧ Below w.heap.size w w') :
    Calls Tryz.prog 45 #[.int .i64 M, .string s] w fun e w' => e = .returned (.string (r ++ d)) ∧ Below w.heap.size w w' := by
  go_enter Tryz.func45, Tryz.ntmps45
  go_wp2_with fail
  refine hI.mono ?_; rintro e w1 ⟨rfl, hb⟩
  go_wp2_with fail
  refine (hR _ _ ?_).mono ?_
  · rfl
  rintro e w2 ⟨rfl, hb2⟩
  go_wp2_with fail
  go_ret
  exact ⟨rfl, belowThen hb hb2⟩
theorem toList_bar (l : List UInt8) : (bar l).toList = l := Lib.toList_data _
theorem text_d (N : Nat) (w : World) (hN : N ≤ 1000000000) (ht : Tabs w) (f : List UInt8) (hf : f.length ≤ 9) (k1 : f ≠ [105]) (k2 : f ≠ [73]) (k3 : f ≠ [97]) (k4 : f ≠ [65]) :
    Calls Tryz.prog 45 #[.int .i64 N, .string (bar f)] w fun e w' => e = .returned (.string (bar (textB N f))) ∧ Below w.heap.size w w' := by
  have e1 : textB N f = List.replicate (f.length - (Lib.decDigits N).length) 48 ++ Lib.decDigits N := by unfold textB; rw [if_neg k1, if_neg k3]
  rw [e1, ← bar_app]
  have hl := dec_len N (by omega)
  refine text_d0 N w (by omega) (by omega) (bar (Lib.decDigits N)) _ (bar f) ?_ ?_ ?_ ?_ (by rw [bar_size]; omega) (by rw [bar_size]; omega) (by rw [bar_size]; simp; omega) (itoaNat N w (by omega) ht) ?_
  all_goals try (rw [toList_bar]; simpa)
  intro w n hn
  rw [hn, bar_size, bar_size, show max 0 ((f.length : Int) - ((Lib.decDigits N).length : Int)) = ((f.length - (Lib.decDigits N).length : Nat) : Int) by omega]
  exact repeat_any 48 _ w (by omega)

set_option maxRecDepth 100000 in
set_option maxHeartbeats 2000000 in
theorem text_up0 (M : Int) (w : World) (hM : M ≤ 1000000000) (h0 : 0 ≤ M) (d r u f' : ByteArray) (s : ByteArray) (hk : (s.toList = [73]) ∨ ((s.toList == [73]) = false ∧ s.toList = [65]))
    (hI : Calls Tryz.prog 62 #[.int .i64 M] w fun e w' => e = .returned (.string d) ∧ Below w.heap.size w w')
    (hL : ∀ w, Calls Tryz.prog 64 #[.string s] w fun e w' => e = .returned (.string f') ∧ Below w.heap.size w w')
    (hT : ∀ w', Below w.heap.size w w' → Calls Tryz.prog 45 #[.int .i64 M, .string f'] w' fun e w'' => e = .returned (.string r) ∧ Below w'.heap.size w' w'')
    (hU : ∀ w, Calls Tryz.prog 63 #[.string r] w fun e w' => e = .returned (.string u) ∧ Below w.heap.size w w') :
    Calls Tryz.prog 45 #[.int .i64 M, .string s] w fun e w' => e = .returned (.string u) ∧ Below w.heap.size w w' := by
  rcases hk with k1 | ⟨k0, k1⟩
  all_goals
    go_enter Tryz.func45, Tryz.ntmps45
    go_wp2_with fail
    refine hI.mono ?_; rintro e w1 ⟨rfl, hb⟩
    go_wp2_with fail
    refine (hL _).mono ?_; rintro e w2 ⟨rfl, hb2⟩
    go_wp2_with fail
    refine (hT _ (belowThen hb hb2)).mono ?_; rintro e w3 ⟨rfl, hb3⟩
    go_wp2_with fail
    refine (hU _).mono ?_; rintro e w4 ⟨rfl, hb4⟩
    go_wp2_with fail
    go_ret
    exact ⟨rfl, belowThen (belowThen (belowThen hb hb2) hb3) hb4⟩
theorem upper_any (l : List UInt8) (w : World) (hl : l.length ≤ 1000) (ha : ∀ b ∈ l, b.toNat < 128) :
    Calls Tryz.prog 63 #[.string (bar l)] w fun e w' => e = .returned (.string (bar (Lib.toUpperA l))) ∧ Below w.heap.size w w' :=
  Tryz.strings_ToUpper_ascii (bar l) w (by rw [bar_size]; omega) (fun j b hb => ha b (List.mem_of_getElem? hb))
theorem lower_any (l : List UInt8) (w : World) (hl : l.length ≤ 1000) (ha : ∀ b ∈ l, b.toNat < 128) :
    Calls Tryz.prog 64 #[.string (bar l)] w fun e w' => e = .returned (.string (bar (Lib.toLowerA l))) ∧ Below w.heap.size w w' :=
  Tryz.strings_ToLower_ascii (bar l) w (by rw [bar_size]; omega) (fun j b hb => ha b (List.mem_of_getElem? hb))
theorem text_up (N : Nat) (w : World) (hN : N ≤ 1000000000) (ht : Tabs w) (f : List UInt8) (hf : f = [73] ∨ f = [65]) :
    Calls Tryz.prog 45 #[.int .i64 N, .string (bar f)] w fun e w' => e = .returned (.string (bar (Lib.toUpperA (textB N (Lib.toLowerA f))))) ∧ Below w.heap.size w w' := by
  refine text_up0 N w (by omega) (by omega) (bar (Lib.decDigits N)) (bar (textB N (Lib.toLowerA f))) _ (bar (Lib.toLowerA f)) (bar f) ?_ (itoaNat N w (by omega) ht) ?_ ?_ ?_
  · rcases hf with rfl | rfl
    · exact .inl (toList_bar _)
    · exact .inr ⟨by rw [toList_bar]; rfl, toList_bar _⟩
  · intro w; exact lower_any f w (by rcases hf with rfl | rfl <;> decide) (by rcases hf with rfl | rfl <;> decide)
  · intro w' hb
    rcases hf with rfl | rfl
    · exact text_i N w' hN (ht.under hb) _ (toList_bar _)
    · exact text_a N w' hN (ht.under hb) _ (toList_bar _)
  · intro w
    exact upper_any _ w (Nat.le_trans (textB_len N _ hN (by rcases hf with rfl | rfl <;> decide)) (by decide)) (textB_ascii N _)
theorem text_P (N : Nat) (w : World) (hN : N ≤ 1000000000) (ht : Tabs w) (f : List UInt8) (hf : f.length ≤ 9) :
    Calls Tryz.prog 45 #[.int .i64 N, .string (bar f)] w fun e w' => e = .returned (.string (bar (textP N f))) ∧ Below w.heap.size w w' := by
  unfold textP
  by_cases hu : f = [73] ∨ f = [65]
  · rw [if_pos hu]; exact text_up N w hN ht f hu
  · rw [if_neg hu]
    by_cases h1 : f = [105]
    · subst h1; exact text_i N w hN ht _ (toList_bar _)
    by_cases h2 : f = [97]
    · subst h2; exact text_a N w hN ht _ (toList_bar _)
    exact text_d N w hN ht f hf h1 (fun h => hu (.inl h)) h2 (fun h => hu (.inr h))
set_option maxRecDepth 100000 in
set_option maxHeartbeats 2000000 in
theorem text_neg (M : Int) (w : World) (hM : -1000000000 ≤ M) (h0 : M < 0) (s r : ByteArray) (hr : r.size ≤ 100)
    (hT : Calls Tryz.prog 45 #[.int .i64 (-M), .string s] w fun e w' => e = .returned (.string r) ∧ Below w.heap.size w w') :
    Calls Tryz.prog 45 #[.int .i64 M, .string s] w fun e w' => e = .returned (.string (⟨#[45]⟩ ++ r)) ∧ Below w.heap.size w w' := by
  go_enter Tryz.func45, Tryz.ntmps45
  go_wp2_with fail
  refine hT.mono ?_; rintro e w1 ⟨rfl, hb⟩
  go_wp2_with fail
  go_ret
  exact ⟨rfl, hb⟩
theorem textP_len (N : Nat) (f : List UInt8) (hN : N ≤ 1000000000) (hf : f.length ≤ 9) : (textP N f).length ≤ 60 := by
  unfold textP
  split
  · unfold Lib.toUpperA; rw [List.length_map]; exact textB_len N _ hN (by unfold Lib.toLowerA; rw [List.length_map]; exact hf)
  · exact textB_len N f hN hf
theorem textL_len (n : Int) (f : List UInt8) (h0 : -1000000000 ≤ n) (h1 : n ≤ 1000000000) (hf : f.length ≤ 9) : (textL n f).length ≤ 61 := by
  have := textP_len n.natAbs f (by omega) hf
  unfold textL
  split
  · simp; omega
  · omega
/-- register.text, every number that is held, every format. -/
theorem text_any (n : Int) (w : World) (h0 : -1000000000 ≤ n) (h1 : n ≤ 1000000000) (ht : Tabs w) (f : List UInt8) (hf : f.length ≤ 9) :
    Calls Tryz.prog 45 #[.int .i64 n, .string (bar f)] w fun e w' => e = .returned (.string (bar (textL n f))) ∧ Below w.heap.size w w' := by
  unfold textL
  by_cases hn : n < 0
  · rw [if_pos hn]
    have h := text_P n.natAbs w (by omega) ht f hf
    rw [show ((n.natAbs : Nat) : Int) = -n by omega] at h
    exact text_neg n w h0 hn (bar f) _ (by have := textP_len n.natAbs f (by omega) hf; rw [bar_size]; omega) h
  · rw [if_neg hn]
    have h := text_P n.natAbs w (by omega) ht f hf
    rwa [show ((n.natAbs : Nat) : Int) = n by omega] at h
end Go.Proofs.YtajbpjojockgoaaGreatDoor
