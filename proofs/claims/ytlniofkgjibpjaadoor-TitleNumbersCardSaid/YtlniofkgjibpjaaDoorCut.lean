/-
  frisketref07.Cut returns the pieces between the bytes that are cut at; texts of at most 100000 bytes.
-/
import Derived.Test.YtlniofkgjibpjaaDoorBase
namespace Go.Proofs.YtlniofkgjibpjaaDoor
open Go.RowKit

/-- A text cut at a byte. -/
def cutL (c : UInt8) : List UInt8 → List (List UInt8)
  | [] => [[]]
  | b :: l => if b = c then [] :: cutL c l else
    match cutL c l with
    | [] => [[b]]
    | h :: t => (b :: h) :: t
def pre (p : List UInt8) : List (List UInt8) → List (List UInt8)
  | [] => [p]
  | h :: t => (p ++ h) :: t
theorem cutL_ne (c : UInt8) (l : List UInt8) : cutL c l ≠ [] := by
  cases l with
  | nil => simp [cutL]
  | cons b l => simp only [cutL]; split; · simp
                split <;> simp
theorem pre_nil (c : UInt8) (l : List UInt8) : pre [] (cutL c l) = cutL c l := by
  have := cutL_ne c l
  cases h : cutL c l with
  | nil => exact absurd h this
  | cons a t => simp [pre]
theorem cutL_hit (c : UInt8) (l : List UInt8) : cutL c (c :: l) = [] :: cutL c l := by simp [cutL]
theorem cutL_miss (c b : UInt8) (l : List UInt8) (h : b ≠ c) : cutL c (b :: l) = pre [b] (cutL c l) := by
  simp only [cutL, if_neg h]
  cases cutL c l <;> simp [pre]
theorem pre_pre (p q : List UInt8) (L : List (List UInt8)) (h : L ≠ []) : pre p (pre q L) = pre (p ++ q) L := by
  cases L with
  | nil => exact absurd rfl h
  | cons a t => simp [pre]

/-- The pieces of 's' so far ('done'), the piece begun at 'f', and what comes from 'k' on make up the whole. -/
def CutInv (c : UInt8) (s : List UInt8) (done : List (List UInt8)) (f k : Nat) : Prop := done ++ pre ((s.drop f).take (k - f)) (cutL c (s.drop k)) = cutL c s
theorem cutInv_start (c : UInt8) (s : List UInt8) : CutInv c s [] 0 0 := by simp [CutInv, pre_nil]
theorem cutInv_hit {c : UInt8} {s : List UInt8} {done : List (List UInt8)} {f k : Nat} (h : CutInv c s done f k) (hk : k < s.length) (hc : s[k] = c) :
    CutInv c s (done ++ [(s.drop f).take (k - f)]) (k + 1) (k + 1) := by
  unfold CutInv at *
  rw [List.drop_eq_getElem_cons hk, hc, cutL_hit] at h
  simp only [Nat.sub_self, List.take_zero, pre_nil]
  rw [← h]; simp [pre]
theorem cutInv_miss {c : UInt8} {s : List UInt8} {done : List (List UInt8)} {f k : Nat} (h : CutInv c s done f k) (hf : f ≤ k) (hk : k < s.length) (hc : s[k] ≠ c) :
    CutInv c s done f (k + 1) := by
  unfold CutInv at *
  rw [List.drop_eq_getElem_cons hk, cutL_miss _ _ _ hc, pre_pre _ _ _ (cutL_ne _ _)] at h
  rw [← h]
  congr 2
  rw [show k + 1 - f = (k - f) + 1 by omega, List.take_succ_eq_append_getElem (by simp; omega)]
  simp [show f + (k - f) = k by omega]
theorem cutInv_end {c : UInt8} {s : List UInt8} {done : List (List UInt8)} {f : Nat} (h : CutInv c s done f s.length) : done ++ [s.drop f] = cutL c s := by
  unfold CutInv at h
  rw [← h]
  simp [cutL, pre, List.take_of_length_le]
theorem cutInv_len {c : UInt8} {s : List UInt8} {done : List (List UInt8)} {f k : Nat} (h : CutInv c s done f k) : done.length < (cutL c s).length := by
  unfold CutInv at h
  have := congrArg List.length h
  rw [List.length_append] at this
  have h2 : 0 < (pre ((s.drop f).take (k - f)) (cutL c (s.drop k))).length := by cases cutL c (s.drop k) <;> simp [pre]
  omega
theorem cutL_len (c : UInt8) (l : List UInt8) : (cutL c l).length ≤ l.length + 1 := by
  induction l with
  | nil => simp [cutL]
  | cons b l ih =>
    by_cases h : b = c
    · subst h; rw [cutL_hit]; simp; omega
    · rw [cutL_miss _ _ _ h]
      cases hh : cutL c l with
      | nil => simp [pre]
      | cons a t => rw [hh] at ih; simp [pre] at *; omega
def strV (l : List UInt8) : Value := .string ⟨l.toArray⟩
theorem strV_extract (s : ByteArray) (a b : Nat) : Value.string (s.extract a b) = strV ((s.data.toList.drop a).take (b - a)) := by
  unfold strV
  congr 1
  apply ByteArray.ext
  apply Array.toList_inj.1
  rw [Lib.extract_data]

theorem Tryd.info9 : (Tryd.prog.info? 9).map (fun i => (i.zero, i.size, i.bytes)) = some (some (.string ByteArray.empty), 1, 16) := by kernel_rfl
def CutPost (c : UInt8) (s : List UInt8) (w : World) (e : Ending) (w' : World) : Prop :=
  ∃ v, e = .returned v ∧ w'.ownsRow w.heap.size 9 1 v (cutL c s).length ((cutL c s).map strV) ∧ Below w.heap.size w w'
def CutRel (c : UInt8) (s : ByteArray) (w : World) (v f k : Value) (wr : World) : Prop :=
  ∃ (fn kn : Nat) (done : List (List UInt8)), f = .int .i64 fn ∧ k = .int .i64 kn ∧ fn ≤ kn ∧ kn ≤ s.size ∧ CutInv c s.data.toList done fn kn ∧ wr.ownsRow w.heap.size 9 1 v done.length (done.map strV) ∧ Below w.heap.size w wr

set_option maxRecDepth 100000 in
set_option maxHeartbeats 1000000 in
theorem cut_any (s : ByteArray) (c : UInt8) (w : World) (hs : s.size ≤ 100000) :
    Calls Tryd.prog 23 #[.string s, .int .u8 c.toNat] w (CutPost c s.data.toList w) := by
  obtain ⟨i0, hi, hz0, hz1, hz2⟩ := info_parts Tryd.info9
  go_enter Tryd.func23, Tryd.ntmps23
  go_wp2
  go_loopw [5, 6, 7] (fun v f k wr => CutRel c s w v f k wr) (fun _ _ k _ => s.size - (intOf k).toNat)
  case atStart => exact ⟨0, 0, [], rfl, rfl, Nat.le_refl _, Nat.zero_le _, cutInv_start _ _, World.ownsRow_nil _ _ _ _, Below.refl _ _⟩
  case round =>
    obtain ⟨fn, kn, done, rfl, rfl, hfk, hks, hinv, hown, hbel⟩ := hrel
    have HI := Lib.hid hinv
    clear hinv
    have hsz := hbel.size
    have hdl : done.length ≤ s.size := by have h1 := cutInv_len HI.out; have h2 := cutL_len c s.data.toList; simp at h2; omega
    by_cases hlt : kn < s.size
    · by_cases hc : s[kn] = c
      · have ht : ((s[kn].toNat : Int) == (c.toNat : Int)) = true := by simp [hc]
        have HC := Lib.hid hc
        clear hc
        go_wp2_with (at_builtin; refine wpList_append_own _ rfl (.tmp 19) (.tmp 24) 41 rfl w.heap.size 9 i0 (.string ByteArray.empty) 1 16 Tryd.underlying41 hi hz0 hz1 hz2 rfl (by decide) _ _ _ rfl (hown.alloc _) ⟨wr.heap.size, 0, none⟩ 1 1 [.string (s.extract fn kn)] rfl rfl ?c1 ?c2 ?c3 ?c4 ?c5 ?grow)
        case c1 => exact cell_one_new _ _ _
        case c2 => intro u hu; simp at hu; subst hu; rfl
        case c3 => unfold maxLen; omega
        case c4 => omega
        case c5 => simp; omega
        case grow =>
          intro v' w1 hown' hgrow _
          have hbel' := (hbel.alloc hbel.size _).grown hgrow (by simp; omega) (fun k hk => (hown.lt k hk).1)
          rw [strV_extract] at hown'
          have hown2 : w1.ownsRow w.heap.size 9 1 v' (done ++ [(s.data.toList.drop fn).take (kn - fn)]).length ((done ++ [(s.data.toList.drop fn).take (kn - fn)]).map strV) := by simpa using hown'
          clear hown' hown
          go_wp2
          go_roundw
          case rel => exact ⟨kn + 1, kn + 1, _, by go_num, by go_num, by omega, by omega, cutInv_hit HI.out (by simpa using hlt) HC.out, hown2, hbel'⟩
          case measure => simp [intOf]; omega
      · have ht : ((s[kn].toNat : Int) == (c.toNat : Int)) = false := by
          rw [beq_eq_false_iff_ne]; intro e; exact hc (UInt8.toNat_inj.1 (by omega))
        have HC := Lib.hid hc
        clear hc
        go_wp2
        go_roundw
        case rel => exact ⟨fn, kn + 1, done, rfl, by go_num, by omega, by omega, cutInv_miss HI.out hfk (by simpa using hlt) HC.out, hown, hbel⟩
        case measure => simp [intOf]; omega
    · skip
      have hkn : kn = s.size := by omega
      subst hkn
      go_wp2_with (at_builtin; refine wpList_append_own _ rfl (.tmp 28) (.tmp 32) 41 rfl w.heap.size 9 i0 (.string ByteArray.empty) 1 16 Tryd.underlying41 hi hz0 hz1 hz2 rfl (by decide) _ _ _ rfl (hown.alloc _) ⟨wr.heap.size, 0, none⟩ 1 1 [.string (s.extract fn s.size)] rfl rfl ?c1 ?c2 ?c3 ?c4 ?c5 ?grow)
      case c1 => exact cell_one_new _ _ _
      case c2 => intro u hu; simp at hu; subst hu; rfl
      case c3 => unfold maxLen; omega
      case c4 => omega
      case c5 => simp; omega
      case grow =>
        intro v' w1 hown' hgrow _
        have hbel' := (hbel.alloc hbel.size _).grown hgrow (by simp; omega) (fun k hk => (hown.lt k hk).1)
        rw [strV_extract] at hown'
        have he := cutInv_end (f := fn) (s := s.data.toList) (c := c) (done := done) (by simpa using HI.out)
        have hown2 : w1.ownsRow w.heap.size 9 1 v' (cutL c s.data.toList).length ((cutL c s.data.toList).map strV) := by
          rw [← he]
          simpa [List.take_of_length_le] using hown'
        clear hown' hown he
        go_wp2
        go_ret
        exact ⟨_, rfl, hown2, hbel'⟩
end Go.Proofs.YtlniofkgjibpjaaDoor
