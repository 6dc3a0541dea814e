/-
  strings.Cut at one byte; strconv.Atoi at every text. No condition.
-/
import Derived.Test.YtanekljbehhjcaaDoorGw
import Derived.Outline
import Derived.Lib.IndexLaws
import Derived.Lib.Hide
import Derived.WalkSpells
import Derived.WalkLawsBesides
import Derived.Deep.QuietTactic
import Derived.BigQuiet
namespace Go.Proofs.YtanekljbehhjcaaDoor
open Go.RowKit

theorem growN (w : World) (n : Nat) : Below w.heap.size w (w.drewN n) := ⟨rfl, rfl, rfl, Nat.le_refl _, fun _ _ => rfl⟩
/-- What stands ahead of a byte, what behind it, and whether it is there. -/
def cutB (l : List UInt8) (b : UInt8) : List UInt8 × List UInt8 × Bool :=
  if 0 ≤ Lib.indexByte l b then (l.take (Lib.indexByte l b).toNat, l.drop ((Lib.indexByte l b).toNat + 1), true) else (l, [], false)

set_option maxRecDepth 100000 in
set_option maxHeartbeats 1000000 in
theorem lite_cut_one (s : ByteArray) (b : UInt8) (w : World) (hs : s.size ≤ 9223372036854775807) (hi : ∀ (i : Int), Lib.indexByte s.data.toList b = i → 0 ≤ i → i < s.size) :
    Calls Tryd.prog 33 #[.string s, .string ⟨#[b]⟩] w fun e w' => e = .returned (.tuple #[.string (bar (cutB s.data.toList b).1), .string (bar (cutB s.data.toList b).2.1), .bool (cutB s.data.toList b).2.2]) ∧ Below w.heap.size w w' := by
  have h := Tryd.stringslite_Index_one s b w
  unfold cutB
  generalize Lib.indexByte s.data.toList b = i at h hi ⊢
  by_cases h0 : 0 ≤ i
  · have h1 := hi i rfl h0
    rw [if_pos h0]
    obtain ⟨n, rfl⟩ := Int.eq_ofNat_of_zero_le h0
    rw [Int.toNat_natCast]
    have hn : n < s.size := by omega
    have e1 : s.extract 0 n = bar (s.data.toList.take n) := by
      apply ByteArray.ext; apply Array.toList_inj.1; simp [bar]
    have e2 : s.extract (n + 1) s.size = bar (s.data.toList.drop (n + 1)) := by
      apply ByteArray.ext; apply Array.toList_inj.1
      simp [bar]
      rw [List.take_of_length_le (by simp)]
    have E1 := Lib.hid e1
    have E2 := Lib.hid e2
    have w1 : IntKind.i64.wrap ((n : Int) + 1) = (n : Int) + 1 := IntWalk.i64_in _ (by omega)
    have q1 : ((n : Int) + 1).toNat = n + 1 := by omega
    have q2 : (n : Int) ≤ (s.size : Int) := by omega
    have q3 : (n : Int) + 1 ≤ (s.size : Int) := by omega
    have q4 : (0 : Int) ≤ (n : Int) + 1 := by omega
    clear e1 e2 hi
    go_enter Tryd.func33, Tryd.ntmps33
    go_wp2_with fail
    refine h.mono ?_; rintro e w' ⟨rfl, rfl⟩
    go_wp2_with fail
    go_quiet (fail)
    go_wp2_with fail
    go_ret3
    exact ⟨by rw [← E1.out, ← E2.out]; rfl, (Below.refl w'.heap.size w').trans (growN w' nq)⟩
  · rw [if_neg h0]
    go_enter Tryd.func33, Tryd.ntmps33
    go_wp2_with fail
    refine h.mono ?_; rintro e w' ⟨rfl, rfl⟩
    go_wp2_with fail
    go_ret3
    exact ⟨by rw [bar_of]; rfl, Below.refl _ _⟩
theorem index_lt (l : List UInt8) (b : UInt8) (h : 0 ≤ Lib.indexByte l b) : Lib.indexByte l b < l.length := by
  obtain ⟨o, e⟩ := Int.eq_ofNat_of_zero_le h
  have := (Lib.indexByte_some e).1
  obtain ⟨h1, _⟩ := List.getElem?_eq_some_iff.1 this
  rw [e]; omega
set_option maxRecDepth 100000 in
theorem cut_one (s : ByteArray) (b : UInt8) (w : World) (hs : s.size ≤ 9223372036854775807) :
    Calls Tryd.prog 15 #[.string s, .string ⟨#[b]⟩] w fun e w' => e = .returned (.tuple #[.string (bar (cutB s.data.toList b).1), .string (bar (cutB s.data.toList b).2.1), .bool (cutB s.data.toList b).2.2]) ∧ Below w.heap.size w w' := by
  have h := lite_cut_one s b w hs (fun i e h0 => by
    rw [← e] at h0 ⊢
    have := index_lt _ _ h0
    rwa [show s.data.toList.length = s.size from Array.length_toList] at this)
  generalize cutB s.data.toList b = c at h ⊢
  go_enter Tryd.func15, Tryd.ntmps15
  go_wp2_with fail
  refine h.mono ?_; rintro e w' ⟨rfl, hb⟩
  go_wp2_with fail
  go_ret3
  exact ⟨rfl, hb⟩

/-- strconv.Atoi: the number, and whether the text is one. -/
def atoiN (l : List UInt8) : Int := match Lib.atoiAll l with | .ok v => v | .range => Lib.atoiSat l | _ => 0
def atoiB (l : List UInt8) : Bool := match Lib.atoiAll l with | .ok _ => true | _ => false
theorem atoi_any (s : ByteArray) (w : World) (hs : s.size ≤ 140737488355328) (hG : GW w) :
    Calls Tryd.prog 16 #[.string s] w fun e w' => ∃ ev, e = .returned (.tuple #[.int .i64 (atoiN s.data.toList), ev]) ∧ (atoiB s.data.toList = true → ev = .nilIface) ∧ (atoiB s.data.toList = false → ∃ te pe, ev = .iface te pe) ∧ Below w.heap.size w w' := by
  unfold atoiN atoiB
  cases h : Lib.atoiAll s.data.toList with
  | ok v =>
    refine (Tryd.strconv_Atoi_ok s (by omega) v h w).mono fun e w' ⟨h1, h2⟩ => ⟨.nilIface, h1, fun _ => rfl, (fun h => nomatch h), ?_⟩
    rcases h2 with rfl | ⟨t, rfl⟩
    · exact Below.refl _ _
    · exact Lib.bytesWorld_below _ _ _
  | range =>
    obtain ⟨tp, p, hv⟩ := hG.rng
    exact (Tryd.strconv_Atoi_range_var s (by omega) h tp p w hv).mono fun e w' ⟨N, h1, _, _, h2⟩ => ⟨_, h1, (fun h => nomatch h), fun _ => ⟨_, _, rfl⟩, h2⟩
  | _ =>
    obtain ⟨tp, p, hv⟩ := hG.synt
    exact (Tryd.strconv_Atoi_syntax_var s (by omega) h tp p w hv).mono fun e w' ⟨N, h1, _, _, h2⟩ => ⟨_, h1, (fun h => nomatch h), fun _ => ⟨_, _, rfl⟩, h2⟩
end Go.Proofs.YtanekljbehhjcaaDoor
