/-
  Texts that lean on one another, laid in one file. No condition.
-/
import Derived.Test.YtanekljbehhjcaaDoorGA1
import Derived.Deep.RegionHeld3
import Derived.Deep.AppendLies
import Derived.RangeFuncNested
import Derived.RangeFuncBound
import Derived.RangeFuncCalls
import Derived.RangeFuncLeaves
import Derived.Test.YtanekljbehhjcaaDoorShelf
import Derived.RangeFuncBox
import Derived.RangeFuncWrites
import Derived.RangeFuncOne
import Derived.RangeFuncFrom
import Derived.Shelf.Abstract
import Derived.WalkKit
import Derived.OwnWalkIn
import Derived.TacticsInMore
import Derived.LoopNIn
import Derived.LoopIn
import Derived.Lib.Hide
import Derived.Lib.IndexLaws
import Derived.IntWalk
import Derived.Outline
import Derived.WalkSpells
import Derived.WalkLawsBesides
import Derived.Deep.QuietTactic
import Derived.BigQuiet
import Derived.Deep.RegionWith
import Derived.Maps.AppendAt
namespace Go.Proofs.YtanekljbehhjcaaDoor
open Go.RowKit Go.Shelf Go.Sort Go.Proofs.YtanekljbehhjcaaDoorW.PrintWords

theorem infS : (Tryd.prog.info? 9).map (fun i => (i.zero, i.size, i.bytes)) = some (some (.string ⟨#[]⟩), 1, 16) := by kernel_rfl
/-- The parts as the slice holds them. -/
def strs (P : List (List UInt8)) : List Value := P.map fun p => .string (bar p)
theorem pages_none (A0 : Option Addr) (c0 : Nat) (l : List Int) (w : World) (hr : Kd.C (Kd.int .i64) w A0 l.length l) (hl : l.length ≤ 1000000000) (hb : l.any badPage = true) :
    Calls Tryd.prog 9 #[.slice A0 l.length c0] w fun e w' => e = .returned (.tuple #[.string (pagesOf l).1, .int .i64 (pagesOf l).2]) ∧ Below w.heap.size w w' := by
  have h := has_bad A0 c0 l w hr (by omega)
  have e1 : pagesOf l = (bar [], 1) := by unfold pagesOf; rw [if_pos hb]
  rw [hb] at h
  rw [e1]
  clear hb e1 hr
  go_enter Tryd.func9, Tryd.ntmps9
  go_wp2_with fail
  refine h.mono ?_; rintro e w' ⟨rfl, rfl⟩
  go_wp2_with fail
  go_ret2
  exact ⟨rfl, Below.refl _ _⟩

theorem partsFrom_one {l : List Int} {i : Nat} (hi : i < l.length) (h : ¬ 2 ≤ runTo l i - i) : partsFrom l i = dec (l.getD i 0) :: partsFrom l (i + 1) := by
  rw [partsFrom, if_pos hi, if_neg h]
theorem partsFrom_run {l : List Int} {i : Nat} (hi : i < l.length) (h : 2 ≤ runTo l i - i) : partsFrom l i = (dec (l.getD i 0) ++ 45 :: dec (l.getD (runTo l i) 0)) :: partsFrom l (runTo l i + 1) := by
  rw [partsFrom, if_pos hi, if_pos h]
theorem partsFrom_end {l : List Int} {i : Nat} (hi : ¬ i < l.length) : partsFrom l i = [] := by
  rw [partsFrom, if_neg hi]

theorem ints_of (A0 : Option Addr) (c0 : Nat) (l : List Int) (w : World) (hr : Kd.C (Kd.int .i64) w A0 l.length l) : IntsAt w.heap.size w (.slice A0 l.length c0) l := by
  cases l with
  | nil => exact .inl ⟨_, _, rfl, rfl⟩
  | cons x r =>
    obtain ⟨ad, e, hc⟩ := Kd.at_int hr 0 (by omega) (by simp)
    obtain ⟨b, off, spot⟩ := ad
    have hspot : spot = none := by simpa [Addr.add] using World.cell?_spot hc
    subst hspot
    refine .inr ⟨b, off, c0, by rw [e], ?_, fun j hj => ?_⟩
    · have := World.block_lt_of_cell? w _ hc
      simpa [Addr.add] using this
    · obtain ⟨ad2, e2, hc2⟩ := Kd.at_int hr (j : Int) (by omega) (by omega)
      rw [e] at e2
      injection e2 with e2
      subst e2
      rw [Int.toNat_natCast, Addr.add_lit] at hc2
      rw [hc2]; rfl
theorem below_drewN {B : Nat} {w w1 : World} (h : RowKit.Below B w w1) (k : Nat) : RowKit.Below B w (w1.drewN k) := ⟨h.os, h.tape, h.output, h.size, h.block⟩
theorem own_drewN {w : World} {base n : Nat} {e : TypeId} {size : Nat} {v : Value} {xs : List Value} (h : w.ownsRow base e size v n xs) (k : Nat) : (w.drewN k).ownsRow base e size v n xs := h

theorem glueAll_len (m : Nat) : ∀ (Q : List (List UInt8)) (s : List UInt8), (∀ p ∈ Q, p.length ≤ m) → (glueAll s Q).length ≤ s.length + (m + 2) * Q.length
  | [], s, _ => by simp [glueAll]
  | x :: r, s, h => by
    rw [glueAll]
    have h1 := glueAll_len m r (glue s x) (fun p hp => h p (List.mem_cons_of_mem _ hp))
    have h2 : (glue s x).length ≤ s.length + 2 + x.length := by
      unfold glue; split
      · simp
      · simp [comma]; omega
    have h3 := h x List.mem_cons_self
    have h4 : (m + 2) * (x :: r).length = (m + 2) * r.length + (m + 2) := by rw [List.length_cons, Nat.mul_add, Nat.mul_one]
    omega
theorem partsFrom_small (l : List Int) (i : Nat) (hr : ∀ x ∈ l, 0 ≤ x ∧ x ≤ 1000000) : (∀ p ∈ partsFrom l i, p.length ≤ 60) ∧ (partsFrom l i).length ≤ l.length - i := by
  fun_induction partsFrom l i with
  | case1 i h h2 ih =>
    have h3 := runTo_ge l i
    refine ⟨fun p hp => ?_, by have := ih.2; simp only [List.length_cons]; omega⟩
    rcases List.mem_cons.1 hp with rfl | hp
    · have a1 := dec_small (getD_range hr i).2
      have a2 := dec_small (getD_range hr (runTo l i)).2
      simp only [List.length_append, List.length_cons]; omega
    · exact ih.1 p hp
  | case2 i h h2 ih =>
    refine ⟨fun p hp => ?_, by have := ih.2; simp only [List.length_cons]; omega⟩
    rcases List.mem_cons.1 hp with rfl | hp
    · have a1 := dec_small (getD_range hr i).2
      omega
    · exact ih.1 p hp
  | case3 i h => exact ⟨fun p hp => by simp at hp, Nat.zero_le _⟩
theorem pagesT_len (l : List Int) (hr : ∀ x ∈ l, 0 ≤ x ∧ x ≤ 1000000) : (pagesT l).length ≤ 62 * l.length := by
  obtain ⟨h1, h2⟩ := partsFrom_small l 0 hr
  have h3 := glueAll_len 60 (partsFrom l 0) [] h1
  have h4 := glueAll_join [] (partsFrom l 0) (by simp) (partsFrom_ne l 0)
  rw [Lib.join_nil, List.nil_append] at h4
  unfold pagesT
  rw [← h4]
  simp only [List.length_nil] at h3
  omega
theorem join_calls (u : Value) (P : List (List UInt8)) (W : World) (base : Nat) (h : W.ownsRow base 9 1 u P.length (strs P)) (hP : P.length ≤ 1000000000) (hlen : (Lib.join P comma).length ≤ 140737488355328) :
    Calls Tryd.prog 26 #[u, .string ⟨#[44, 32]⟩] W fun e w2 => e = .returned (.string (bar (Lib.join P comma))) ∧ Below W.heap.size W w2 := by
  rcases h.2 with ⟨rfl, hz⟩ | ⟨g, cap, cur, rfl, hb, hh, h1, h2, h3, h4⟩
  · have : P = [] := List.eq_nil_of_length_eq_zero hz
    subst this
    exact (Tryd.strings_Join_none none 0 ⟨#[44, 32]⟩ W).mono fun e w2 ⟨e1, e2⟩ => ⟨e1, by rw [e2]; exact Below.refl _ _⟩
  · have hm : (P.map bar).map (fun s => s.data.toList) = P := by
      rw [List.map_map]; exact List.map_id P
    have hj := Tryd.strings_Join g 0 cap (P.map bar) ⟨#[44, 32]⟩ W (fun j x hx => by
      have := h.cells (g := g) rfl j (.string x) (by unfold strs; rw [List.getElem?_map] at hx ⊢; cases hp : P[j]? with
        | none => rw [hp] at hx; cases hx
        | some y => rw [hp] at hx; simp at hx ⊢; exact hx)
      rwa [Addr.add_lit] at this) (Array.getElem?_eq_some_iff.1 hh).1 (by rw [List.length_map]; omega) (by rw [List.length_map]; exact h1) (by rw [hm]; exact hlen)
    rw [hm, List.length_map] at hj
    exact hj
set_option maxRecDepth 100000 in
set_option maxHeartbeats 4000000 in
theorem pages_ok (A0 : Option Addr) (c0 : Nat) (l : List Int) (w : World) (hG : GW w) (hr : Kd.C (Kd.int .i64) w A0 l.length l) (hl : l.length ≤ 100000000) (hbad : l.any badPage = false) :
    Calls Tryd.prog 9 #[.slice A0 l.length c0] w fun e w' => e = .returned (.tuple #[.string (pagesOf l).1, .int .i64 (pagesOf l).2]) ∧ Below w.heap.size w w' := by
  have h := has_bad A0 c0 l w hr (by omega)
  have e1 : pagesOf l = (bar (pagesT (sortD l)), 0) := by unfold pagesOf; rw [if_neg (by rw [hbad]; simp)]
  rw [hbad] at h
  rw [e1]
  have hv : Calls Tryd.prog 24 #[.slice A0 l.length c0] w _ := (callsIn_wide (n := 6)).1 (values_in Fence.wide 6 trivial rfl A0 l.length c0 w)
  have hI := ints_of A0 c0 l w hr
  have hb0 : Below w.heap.size w (w.alloc (.cells #[.slice A0 l.length c0] 23)) := (Below.refl _ w).alloc (Nat.le_refl _) _
  have hS := sorted_calls w.heap.size w.heap.size (.slice A0 l.length c0) l (by omega) (w.alloc (.cells #[.slice A0 l.length c0] 23)) (by simp) (by simp) (Boxed.new w 23 (.slice A0 l.length c0)).cell (hI.below hb0)
  have hC := fun W2 v h5 h4 => compact_calls w W2 v l (by omega) h5 h4
  have hrg : ∀ x ∈ sortD l, 0 ≤ x ∧ x ≤ 1000000 := fun x hx => by
    have h1 := (sortD_mem l x).1 hx
    have h2 := List.any_eq_false.1 hbad x h1
    simp [badPage] at h2; omega
  have hLl := sortD_len l
  have HP := Lib.hid (show pagesT (sortD l) = Lib.join (partsFrom (sortD l) 0) comma from rfl)
  clear hbad e1 hr hI
  generalize sortD l = L at *
  go_enter Tryd.func9, Tryd.ntmps9
  go_wp2_with fail
  refine h.mono ?_; rintro e w' ⟨rfl, rfl⟩
  clear h
  go_wp2_with fail
  refine hv.mono ?_; rintro e w1 ⟨rfl, rfl⟩
  clear hv
  go_wp2_with fail
  refine hS.mono ?_; rintro e W2 ⟨v, rfl, h4, h5⟩
  have hC := hC W2 v (hb0.trans (h5.mono hb0.size)) (h4.imp id fun ⟨g, cap, cur, q0, q1, q2⟩ => ⟨g, cap, cur, q0, by simp at q1; omega, q2⟩)
  clear hS h4 h5 hb0
  go_wp2_with fail
  refine hC.mono ?_; rintro e W3 ⟨v', rfl, ⟨A, c, rfl, hc0, hA, hcell⟩, hb3⟩
  clear hC
  go_wp2_with fail
  obtain ⟨i0, hi, hz0, hz1, hz2⟩ := info_parts infS
  go_loopw [4, 5] (fun v x wr => ∃ (P : List (List UInt8)) (j : Nat), x = .int .i64 j ∧ j ≤ L.length ∧ P.length ≤ j ∧ Hid (P ++ partsFrom L j = partsFrom L 0) ∧ wr.ownsRow W3.heap.size 9 1 v P.length (strs P) ∧ Below W3.heap.size W3 wr)
    (fun _ x _ => L.length - (intOf x).toNat)
  case atStart => exact ⟨[], 0, rfl, Nat.zero_le _, Nat.le_refl _, Lib.hid rfl, World.ownsRow_nil _ _ _ _, Below.refl _ _⟩
  case round =>
    obtain ⟨P, j, rfl, hj, hPl, HPj, hown, hb4⟩ := hrel
    by_cases hlt : j < L.length
    · obtain ⟨g, rfl, hg⟩ := hA (by omega)
      have hcw : ∀ k (h : k < L.length), wr.cell? ⟨g, k, none⟩ = some (.int .i64 L[k]) := fun k h => (hb4.cell (p := ⟨g, k, none⟩) hg).trans (hcell g rfl k h)
      have HC := Lib.hid hcw
      clear hcell hA hcw
      go_wp2_with fail
      obtain ⟨wo, hwo⟩ : ∃ wo : World, wo = wr := ⟨_, rfl⟩
      subst hwo
      go_loopw [6] (fun x wr => ∃ k : Nat, x = .int .i64 k ∧ j ≤ k ∧ k < L.length ∧ Hid (runTo L k = runTo L j) ∧ Hid (∃ n, wr = wo.drewN n)) (fun x _ => L.length - (intOf x).toNat)
      case atStart => exact ⟨j, rfl, Nat.le_refl _, hlt, Lib.hid rfl, Lib.hid ⟨0, rfl⟩⟩
      case round =>
        obtain ⟨k, rfl, hjk, hkl, HR, HD⟩ := hrel
        have hkr := hrg _ (List.getElem_mem hkl)
        have hck : wr.cell? ⟨g, k, none⟩ = some (.int .i64 L[k]) := by
          obtain ⟨n, e⟩ := HD.out
          rw [e]; exact HC.out k hkl
        have HH2 : L.getD k 0 = L[k] := by rw [List.getD_eq_getElem?_getD, List.getElem?_eq_getElem hkl]; rfl
        have hw1 : IntKind.i64.wrap ((k : Int) + 1) = (k : Int) + 1 := IntWalk.i64_in _ (by omega)
        have hw2 : IntKind.i64.wrap (L[k] + 1) = L[k] + 1 := IntWalk.i64_in _ (by omega)
        have q0 : (0 : Int) ≤ (k : Int) + 1 := by omega
        have q1 : ((k : Int) + 1).toNat = k + 1 := by omega
        have q3 : (k : Int) < (L.length : Int) := by omega
        by_cases hst : k + 1 < L.length ∧ L.getD (k + 1) 0 = L.getD k 0 + 1
        · obtain ⟨h1, h2⟩ := hst
          have HR2 := Lib.hid (show runTo L (k + 1) = runTo L j from by rw [← runTo_step h1 h2]; exact HR.out)
          have hck1 : wr.cell? ⟨g, k + 1, none⟩ = some (.int .i64 L[k + 1]) := by
            obtain ⟨n, e⟩ := HD.out
            rw [e]; exact HC.out (k + 1) h1
          rw [HH2, List.getD_eq_getElem?_getD, List.getElem?_eq_getElem h1, Option.getD_some] at h2
          have q2 : (k : Int) + 1 < (L.length : Int) := by omega
          have q4 : decide ((k : Int) + 1 < (L.length : Int)) = true := decide_eq_true q2
          have q5 : (L[k + 1] == L[k] + 1) = true := beq_iff_eq.2 h2
          clear HR h2 HH2
          go_wp2_with fail
          go_quiet (fail)
          clear hw1 hw2 q1 q4 q5
          go_wp2_with fail
          go_roundw
          case rel => exact ⟨k + 1, by go_num, by omega, h1, HR2, Lib.hid (by obtain ⟨n, e⟩ := HD.out; exact ⟨n + nq, by rw [e, World.drewN_drewN]⟩)⟩
          case measure => simp [intOf]; omega
        · have HR2 := Lib.hid (show runTo L j = k from by rw [← HR.out, runTo_stop hst])
          have hjr := hrg _ (List.getElem_mem hlt)
          clear HR
          have hrest : ∀ wq : World, (∃ n, wq = wo.drewN n) → wq.cell? ⟨g, j, none⟩ = some (.int .i64 L[j]) ∧ wq.cell? ⟨g, k, none⟩ = some (.int .i64 L[k]) ∧ wq.ownsRow W3.heap.size 9 1 u4 P.length (strs P) ∧ RowKit.Below w'.heap.size w' wq ∧ RowKit.Below W3.heap.size W3 wq := by
            rintro wq ⟨n, rfl⟩
            exact ⟨HC.out j hlt, HC.out k hkl, own_drewN hown n, below_drewN (hb3.trans (hb4.mono hb3.size)) n, below_drewN hb4 n⟩
          have HRest := Lib.hid hrest
          clear hrest
          have HH3 : L.getD j 0 = L[j] := by rw [List.getD_eq_getElem?_getD, List.getElem?_eq_getElem hlt]; rfl
          by_cases h3 : 2 ≤ k - j
          · have hkr2 := hkr
            have HPn := Lib.hid (show (P ++ [dec L[j] ++ 45 :: dec L[k]]) ++ partsFrom L (k + 1) = partsFrom L 0 from by
              rw [← HPj.out, partsFrom_run hlt (by rw [HR2.out]; exact h3), HR2.out, HH3, HH2, List.append_assoc]; rfl)
            have hjo := fun (W : World) (g' : Nat) (hGW : GW W) (hg' : g' < W.heap.size) (hc : ∀ (i : Nat) x, ([.inr L[j], .inl ⟨#[45]⟩, .inr L[k]] : List (ByteArray ⊕ Int))[i]? = some x → W.cell? ⟨g', 0 + i, none⟩ = some (encP x)) =>
              joined_calls [.inr L[j], .inl ⟨#[45]⟩, .inr L[k]] g' 0 3 W hGW (by intro n hn; simp at hn; omega) hc hg' (by simp) (by
                have a1 := dec_small (n := L[j]) (by omega)
                have a2 := dec_small (n := L[k]) (by omega)
                have e1 : Lib.itoa L[j] = dec L[j] := by unfold Lib.itoa dec; rw [if_neg (by omega)]
                have e2 : Lib.itoa L[k] = dec L[k] := by unfold Lib.itoa dec; rw [if_neg (by omega)]
                simp [txtP, txt1, e1, e2]; omega)
            have ht : txtP [.inr L[j], .inl ⟨#[45]⟩, .inr L[k]] = dec L[j] ++ 45 :: dec L[k] := by
              have e1 : Lib.itoa L[j] = dec L[j] := by unfold Lib.itoa dec; rw [if_neg (by omega)]
              have e2 : Lib.itoa L[k] = dec L[k] := by unfold Lib.itoa dec; rw [if_neg (by omega)]
              simp [txtP, txt1, e1, e2]
            rw [ht] at hjo
            clear ht
            by_cases h1 : k + 1 < L.length
            case' pos =>
              have hck1 : wr.cell? ⟨g, k + 1, none⟩ = some (.int .i64 L[k + 1]) := by
                obtain ⟨n, e⟩ := HD.out
                rw [e]; exact HC.out (k + 1) h1
              have h2 : ¬ L[k + 1] = L[k] + 1 := fun h => hst ⟨h1, by rw [HH2, List.getD_eq_getElem?_getD, List.getElem?_eq_getElem h1, Option.getD_some]; exact h⟩
              have q2 : (k : Int) + 1 < (L.length : Int) := by omega
              have q4 : decide ((k : Int) + 1 < (L.length : Int)) = true := decide_eq_true q2
              have q5 : (L[k + 1] == L[k] + 1) = false := beq_eq_false_iff_ne.2 h2
              clear h2 HH2 hst HH3
              go_wp2_with fail
              go_quiet (fail)
              clear hw1 hw2 q1 q4 q5 hck1 hck
            case' neg =>
              have q4 : decide ((k : Int) + 1 < (L.length : Int)) = false := decide_eq_false (by omega)
              clear HH2 hst HH3
              go_wp2_with fail
              go_quiet (fail)
              clear hw1 hw2 q1 q4 hck
            all_goals
              obtain ⟨r1, r2, r3, r4, r5⟩ := HRest.out (wr.drewN nq) (by obtain ⟨n, e⟩ := HD.out; exact ⟨n + nq, by rw [e, World.drewN_drewN]⟩)
              generalize wr.drewN nq = wq at r1 r2 r3 r4 r5 ⊢
              have hq6 : (j : Int) < (L.length : Int) := by omega
              have hgq : g < wq.heap.size := Nat.lt_of_lt_of_le hg r5.size
              clear HRest HC
              go_wp2_with fail
              have hz3 := r5.size
              have hS : ∀ W, RowKit.Below wq.heap.size wq W → (W.cell? ⟨g, j, none⟩ = some (.int .i64 L[j]) ∧ W.cell? ⟨g, k, none⟩ = some (.int .i64 L[k])) ∧ W.ownsRow W3.heap.size 9 1 u4 P.length (strs P) ∧ RowKit.Below W3.heap.size W3 W := fun W hbW =>
                ⟨⟨(hbW.cell (p := ⟨g, j, none⟩) hgq).trans r1, (hbW.cell (p := ⟨g, k, none⟩) hgq).trans r2⟩, pw_own_below r3 hbW, r5.trans (hbW.mono r5.size)⟩
              have HS := Lib.hid hS
              have ag : some g ≠ u4.ownBlock := fun e => by have := own_base r3 g e.symm; omega
              have hK : ∀ W w3, RowKit.Below wq.heap.size wq W → W.grownBy w3 u4.ownBlock → w3.cell? ⟨g, j, none⟩ = some (.int .i64 L[j]) ∧ w3.cell? ⟨g, k, none⟩ = some (.int .i64 L[k]) := fun W w3 hbW hg3 => by
                have hlt3 := Nat.lt_of_lt_of_le hgq hbW.size
                exact ⟨by rw [hg3.cell_far _ hlt3 ag]; exact (hS W hbW).1.1, by rw [hg3.cell_far _ hlt3 ag]; exact (hS W hbW).1.2⟩
              have HK := Lib.hid hK
              clear hK
              have hba : RowKit.Below wq.heap.size wq (wq.alloc (.cells #[.iface 3 (.int .i64 L[j]), .iface 9 (.string ⟨#[45]⟩), .iface 3 (.int .i64 L[k])] 20)).drew := ((Below.refl _ _).alloc (Nat.le_refl _) _).drew
              have hjc := hjo (wq.alloc (.cells #[.iface 3 (.int .i64 L[j]), .iface 9 (.string ⟨#[45]⟩), .iface 3 (.int .i64 L[k])] 20)).drew wq.heap.size (hG.under (r4.trans (hba.mono r4.size))) (by simp) (by
                intro i x hx
                have e : (wq.alloc (.cells #[.iface 3 (.int .i64 L[j]), .iface 9 (.string ⟨#[45]⟩), .iface 3 (.int .i64 L[k])] 20)).drew.heap[wq.heap.size]? = some (.cells #[.iface 3 (.int .i64 L[j]), .iface 9 (.string ⟨#[45]⟩), .iface 3 (.int .i64 L[k])] 20) := World.alloc_heap_new wq _
                simp only [World.cell?, e, Nat.zero_add]
                match i, hx with
                | 0, hx => cases hx; rfl
                | 1, hx => cases hx; rfl
                | 2, hx => cases hx; rfl)
              clear hS hjo
              go_region_held3 (fun W => W.cell? ⟨g, j, none⟩ = some (.int .i64 L[j]) ∧ W.cell? ⟨g, k, none⟩ = some (.int .i64 L[k]))
                (first | exact HK.out _ _ ((hba.trans (hb2.mono hba.size)).alloc (Nat.le_trans hba.size hb2.size) _) hgrow | exact (HS.out _ ((hba.trans (hb2.mono hba.size)).alloc (Nat.le_trans hba.size hb2.size) _)).1 | exact (HS.out _ (hba.trans (hb2.mono hba.size))).1 | exact (HS.out _ hba).1 | exact (HS.out _ (Below.refl _ _).drew).1)
                (first | (go_at_call 25; refine hjc.mono ?_; rintro e w2 ⟨rfl, hb2⟩) | (refine step_append_lies _ (by rfl) _ _ _ (by rfl) W3.heap.size 9 i0 _ 1 16 Tryd.underlying25 hi hz0 hz1 hz2 rfl (by omega) u4 P.length (strs P) (by rfl) (HS.out _ ((hba.trans (hb2.mono hba.size)).alloc (Nat.le_trans hba.size hb2.size) _)).2.1 ⟨w2.heap.size, 0, none⟩ 1 1 [.string (bar (dec L[j] ++ 45 :: dec L[k]))] (by rfl) (by rfl) (World.news_of_block (cs := #[.string (bar (dec L[j] ++ 45 :: dec L[k]))]) (t := 9) (fr := (0, 0)) (heap_alloc_new w2 _)) (by simp [Value.oneCell']) (by omega) (by unfold maxLen; omega) (by omega) (by have := hb2.size; have := hba.size; simp at *; omega) (w2.heap.size + 1) (by simp) ?_; intro gg cap w3 hown1 hgrow hat hlt3))
              have b5 := (HS.out _ ((hba.trans (hb2.mono hba.size)).alloc (Nat.le_trans hba.size hb2.size) (.cells #[.string (bar (dec L[j] ++ 45 :: dec L[k]))] 9))).2.2
              have b6 : RowKit.Below W3.heap.size W3 w3 := b5.grown hgrow b5.size (fun x hx => own_base r3 x hx)
              clear HS HK hjc hba b5 hgrow hb2 hat
              go_wp2_with fail
              go_roundw
              case rel => exact ⟨P ++ [dec L[j] ++ 45 :: dec L[k]], k + 1, by go_num, by omega, by rw [List.length_append]; simp; omega, HPn, by simpa [strs] using hown1, b6⟩
              case measure => simp [intOf]; omega
          · have HPn := Lib.hid (show (P ++ [dec L[j]]) ++ partsFrom L (j + 1) = partsFrom L 0 from by
              rw [← HPj.out, partsFrom_one hlt (by rw [HR2.out]; exact h3), HH3, List.append_assoc]; rfl)
            by_cases h1 : k + 1 < L.length
            case' pos =>
              have hck1 : wr.cell? ⟨g, k + 1, none⟩ = some (.int .i64 L[k + 1]) := by
                obtain ⟨n, e⟩ := HD.out
                rw [e]; exact HC.out (k + 1) h1
              have h2 : ¬ L[k + 1] = L[k] + 1 := fun h => hst ⟨h1, by rw [HH2, List.getD_eq_getElem?_getD, List.getElem?_eq_getElem h1, Option.getD_some]; exact h⟩
              have q2 : (k : Int) + 1 < (L.length : Int) := by omega
              have q4 : decide ((k : Int) + 1 < (L.length : Int)) = true := decide_eq_true q2
              have q5 : (L[k + 1] == L[k] + 1) = false := beq_eq_false_iff_ne.2 h2
              clear h2 HH2 hst HH3
              go_wp2_with fail
              go_quiet (fail)
              clear hw1 hw2 q1 q4 q5 hck1 hck
            case' neg =>
              have q4 : decide ((k : Int) + 1 < (L.length : Int)) = false := decide_eq_false (by omega)
              clear HH2 hst HH3
              go_wp2_with fail
              go_quiet (fail)
              clear hw1 hw2 q1 q4 hck
            all_goals
              obtain ⟨r1, r2, r3, r4, r5⟩ := HRest.out (wr.drewN nq) (by obtain ⟨n, e⟩ := HD.out; exact ⟨n + nq, by rw [e, World.drewN_drewN]⟩)
              generalize wr.drewN nq = wq at r1 r2 r3 r4 r5 ⊢
              have hit := itoa_any L[j] wq (by omega) (by omega) (hG.under r4)
              rw [show Lib.itoa L[j] = dec L[j] from by unfold Lib.itoa dec; rw [if_neg (by omega)]] at hit
              have hz := r4.size
              go_wp2_with fail
              refine hit.mono ?_; rintro e w2 ⟨rfl, hb2⟩
              have o2 := pw_own_below r3 hb2
              have b5 := r5.trans (hb2.mono r5.size)
              have hzw := b5.size
              clear hit r1 r2 r3 r4 r5 hb2 HRest HC
              go_wp2_with (at_builtin; refine wpList_append_own _ rfl _ _ 25 rfl W3.heap.size 9 i0 (.string ⟨#[]⟩) 1 16 Tryd.underlying25 hi hz0 hz1 hz2 rfl (by decide) _ _ _ rfl (o2.alloc _) ⟨w2.heap.size, 0, none⟩ 1 1 [.string (bar (dec L[j]))] rfl rfl (cell_one_new _ _ _) (by simp [Value.oneCell']) (by unfold maxLen; omega) (by omega) (by simp; omega) ?_; intro v' w3 hown' hgrow _)
              go_roundw
              case rel => exact ⟨P ++ [dec L[j]], j + 1, by go_num, by omega, by rw [List.length_append]; simp; omega, HPn, by simpa [strs] using hown', (b5.alloc hzw _).grown hgrow (by simp; omega) (fun x hx => own_base o2 x hx)⟩
              case measure => simp [intOf]; omega
    · obtain rfl : j = L.length := by omega
      have hfin : P = partsFrom L 0 := by rw [← HPj.out, partsFrom_end (by omega), List.append_nil]
      have hPbig : P.length ≤ L.length := hPl
      have hjoin : Calls Tryd.prog 26 #[u4, .string ⟨#[44, 32]⟩] wr fun e w2 => e = .returned (.string (bar (pagesT L))) ∧ Below wr.heap.size wr w2 := by
        have hlen := pagesT_len L hrg
        rw [HP.out, ← hfin] at hlen ⊢
        exact join_calls u4 P wr _ hown (by omega) (by omega)
      clear HPj hfin hcell hA
      go_wp2_with fail
      refine hjoin.mono ?_; rintro e w2 ⟨rfl, hb2⟩
      go_wp2_with fail
      go_ret2
      exact ⟨rfl, (hb3.trans (hb4.mono hb3.size)).trans (hb2.mono (Nat.le_trans hb3.size hb4.size))⟩
/-- As the printed callers ask it. -/
def index_Pages.f (l : List Int) : Option (ByteArray × Int) := if l.length ≤ 100000000 then some (pagesOf l) else none
theorem index_Pages.calls (A0 : Option Addr) (c0 : Nat) (l0 : List Int) (r1 : ByteArray) (r2 : Int) (w : World) (hr0 : Kd.C (Kd.int .i64) w A0 l0.length l0) (_ : l0.length ≤ c0) (hG : GW w) (h : index_Pages.f l0 = some (r1, r2)) :
    Calls Tryd.prog 9 #[.slice A0 l0.length c0] w fun e w' => e = .returned (.tuple #[.string r1, .int .i64 r2]) ∧ RowKit.Below w.heap.size w w' := by
  unfold index_Pages.f at h
  split at h
  · rename_i hl
    have e : pagesOf l0 = (r1, r2) := Option.some.inj h
    by_cases hb : l0.any badPage = true
    · have := pages_none A0 c0 l0 w hr0 (by omega) hb
      rw [e] at this; exact this
    · have := pages_ok A0 c0 l0 w hG hr0 hl (by simpa using hb)
      rw [e] at this; exact this
  · cases h
end Go.Proofs.YtanekljbehhjcaaDoor

namespace Go.Proofs.YtanekljbehhjcaaDoor.PX
open Go.RowKit Go.Proofs.YtanekljbehhjcaaDoorW.PrintWords Go.Proofs.YtanekljbehhjcaaDoorW.PrintLast Go.Proofs.YtanekljbehhjcaaDoorW.PrintMore
attribute [local go_sem] max2_int min2_int max_two min_two max_three min_three max_four min_four   -- for this text's walks alone
set_option linter.unusedVariables false
set_option linter.unusedSimpArgs false

/-! ### frisketlaw27_sane: function 6 -/
def frisketlaw27_sane.f  : Option (Bool) := (index_Pages.f (([3, 1, 2, 7] : List Int))).bind fun bt117 => (if bt117.1.toList = ([49, 45, 51, 44, 32, 55] : List UInt8) then (some (bt117.2 == 0)) else (some false))
set_option maxHeartbeats 8000000 in
set_option maxRecDepth 100000 in
theorem frisketlaw27_sane.calls  (r : Bool) (w : World) (hG : GW w) (h : frisketlaw27_sane.f  = some r) :
    Calls Tryd.prog 6 #[] w fun e w' => e = .returned (.bool r) ∧ Below w.heap.size w w' := by
  have HG := Aside0.mk hG
  clear hG
  have HB := Aside0.mk (Below.refl w.heap.size w)
  have H : ((index_Pages.f (([3, 1, 2, 7] : List Int))).bind fun bt117 => (if bt117.1.toList = ([49, 45, 51, 44, 32, 55] : List UInt8) then (some (bt117.2 == 0)) else (some false))) = some r := h
  clear h
  obtain ⟨y114, hy114⟩ : ∃ y_ : List Int, y_ = (([3, 1, 2, 7] : List Int)) := ⟨_, rfl⟩
  replace H : ((index_Pages.f y114).bind fun bt117 => (if bt117.1.toList = ([49, 45, 51, 44, 32, 55] : List UInt8) then (some (bt117.2 == 0)) else (some false))) = some r := by first | (rw [hy114]; with_reducible exact H) | (have H2_ := (Option.bind_some _ _).symm.trans H; rw [hy114]; with_reducible exact H2_) | (have H2_ := (Option.bind_some _ _).symm.trans H; with_reducible exact H2_) | with_reducible exact H | (rw [hy114]; exact H) | exact H
  have Ny114 := Aside0.mk hy114
  clear hy114
  replace H := Option.bind_eq_some_iff.mp H
  obtain ⟨⟨t117, t118⟩, A10, H⟩ := H
  replace H : (if t117.toList = ([49, 45, 51, 44, 32, 55] : List UInt8) then (some (t118 == 0)) else (some false)) = some r := H
  have A1 := Aside0.mk A10
  clear A10
  by_cases c2 : t117.toList = ([49, 45, 51, 44, 32, 55] : List UInt8)
  · rw [if_pos c2] at H
    have c2b0 : (t117.toList == ([49, 45, 51, 44, 32, 55] : List UInt8)) = true := beq_iff_eq.mpr c2
    have c2b1 : (t117.toList != ([49, 45, 51, 44, 32, 55] : List UInt8)) = false := bne_eq_false_iff_eq.mpr c2
    clear c2
    obtain rfl := Option.some.inj H
    go_enter Tryd.func6, Tryd.ntmps6
    go_wp2_with (first | ((with_reducible refine gate_dst (N := 4) rfl ?_); refine Kd.R_lit (Kd.int .i64) _ 3 ?hg (N := 4) ?hd (xs := ([3, 1, 2, 7] : List Int)) (inner := [.int .i64 3, .int .i64 1, .int .i64 2, .int .i64 7]) (ok := fun _ => True) (okp := fun _ => True) ?hr ?hp (fun _ hk => hk) trivial (Below.refl _ _) (Nat.le_refl _) (by simp) ?_; (case hd => rfl); (case hg => rfl); (case hr => first | (go_simp; done) | (go_simp; rfl)); (case hp => exact (Reps.one (show Kd.M (Kd.int .i64) _ _ _ 3 [.int .i64 3] from rfl) (Reps.one (show Kd.M (Kd.int .i64) _ _ _ 1 [.int .i64 1] from rfl) (Reps.one (show Kd.M (Kd.int .i64) _ _ _ 2 [.int .i64 2] from rfl) (Reps.one (show Kd.M (Kd.int .i64) _ _ _ 7 [.int .i64 7] from rfl) (Reps.none _ _)))))); intro v115 w3 ho4 hb hg_ hnew_; clear hg_ hnew_; (first | rw [← Ny114.out] at ho4 | (simp only [Int.reduceToNat] at ho4; rw [← Ny114.out] at ho4)); have n0_ := Aside0.mk (Kd.R_lower ho4 (below_size (by repeat (first | (with_reducible first | exact HB.out | apply below_alloc | apply pw_below_drewN | apply below_drew1) | exact HB.out)))); have n1_ := Aside0.mk (below_step (by repeat (first | (with_reducible first | exact HB.out | apply below_alloc | apply pw_below_drewN | apply below_drew1) | exact HB.out)) hb); clear HB; have HO116 := n0_; have HB := n1_; clear n0_ n1_; clear hb ho4; obtain ⟨Ao5, co5, eo5⟩ := Kd.R_slice HO116.out; subst eo5) | ((with_reducible refine gate_callee (f := 9) rfl ?_); refine goesL_ (some 5) rfl rfl Tryd.func9 (by kernel_rfl) rfl #[.slice Ao5 y114.length co5] rfl (by (try simp only [List.map_toArray, List.map_cons, List.map_nil]); first | done | rfl | (simp only [List.length_drop, List.length_take]; rfl)) ?_; (with_reducible refine (index_Pages.calls _ _ y114 t117 t118 _ ?side1 ?side2 ?side3 A1.out).mono ?_); (case side1 => repeat (first | exact (Kd.R_reads' HO116.out).2.2 | (with_reducible refine Kd.C_alloc ?_ _) | (with_reducible refine Kd.C_drewN ?_ _) | (with_reducible refine Kd.C_drew ?_))); (case side2 => exact (Kd.R_reads' HO116.out).2.1); (case side3 => exact GW.under HG.out (by repeat (first | (with_reducible first | exact HB.out | apply below_alloc | apply pw_below_drewN | apply below_drew1) | exact HB.out))); rintro e w6 ⟨rfl, hb⟩; refine ⟨_, rfl, ?_⟩; have n0_ := Aside0.mk (Kd.R_below (by (with_reducible repeat (first | apply Kd.R_alloc | apply Kd.R_drewN | apply Kd.R_drew)); exact HO116.out) hb); have n1_ := Aside0.mk (below_step (by repeat (first | (with_reducible first | exact HB.out | apply below_alloc | apply pw_below_drewN | apply below_drew1) | exact HB.out)) hb); clear HO116; clear HB; have HO116 := n0_; have HB := n1_; clear n0_ n1_; (try clear hb); (try clear hb2); (try clear hk); (try clear hi)))
    go_ret
    exact ⟨by first | rfl | (simp [errW_none, errW_some] <;> rfl) | (simp [*, errW_none, errW_some] <;> rfl), by repeat (first | (with_reducible first | exact HB.out | apply below_alloc | apply pw_below_drewN | apply below_drew1) | exact HB.out)⟩
  · rw [if_neg c2] at H
    have c2b0 : (t117.toList == ([49, 45, 51, 44, 32, 55] : List UInt8)) = false := beq_eq_false_iff_ne.mpr c2
    have c2b1 : (t117.toList != ([49, 45, 51, 44, 32, 55] : List UInt8)) = true := bne_iff_ne.mpr c2
    obtain rfl := Option.some.inj H
    go_enter Tryd.func6, Tryd.ntmps6
    go_wp2_with (first | ((with_reducible refine gate_dst (N := 4) rfl ?_); refine Kd.R_lit (Kd.int .i64) _ 3 ?hg (N := 4) ?hd (xs := ([3, 1, 2, 7] : List Int)) (inner := [.int .i64 3, .int .i64 1, .int .i64 2, .int .i64 7]) (ok := fun _ => True) (okp := fun _ => True) ?hr ?hp (fun _ hk => hk) trivial (Below.refl _ _) (Nat.le_refl _) (by simp) ?_; (case hd => rfl); (case hg => rfl); (case hr => first | (go_simp; done) | (go_simp; rfl)); (case hp => exact (Reps.one (show Kd.M (Kd.int .i64) _ _ _ 3 [.int .i64 3] from rfl) (Reps.one (show Kd.M (Kd.int .i64) _ _ _ 1 [.int .i64 1] from rfl) (Reps.one (show Kd.M (Kd.int .i64) _ _ _ 2 [.int .i64 2] from rfl) (Reps.one (show Kd.M (Kd.int .i64) _ _ _ 7 [.int .i64 7] from rfl) (Reps.none _ _)))))); intro v115 w7 ho8 hb hg_ hnew_; clear hg_ hnew_; (first | rw [← Ny114.out] at ho8 | (simp only [Int.reduceToNat] at ho8; rw [← Ny114.out] at ho8)); have n0_ := Aside0.mk (Kd.R_lower ho8 (below_size (by repeat (first | (with_reducible first | exact HB.out | apply below_alloc | apply pw_below_drewN | apply below_drew1) | exact HB.out)))); have n1_ := Aside0.mk (below_step (by repeat (first | (with_reducible first | exact HB.out | apply below_alloc | apply pw_below_drewN | apply below_drew1) | exact HB.out)) hb); clear HB; have HO116 := n0_; have HB := n1_; clear n0_ n1_; clear hb ho8; obtain ⟨Ao9, co9, eo9⟩ := Kd.R_slice HO116.out; subst eo9) | ((with_reducible refine gate_callee (f := 9) rfl ?_); refine goesL_ (some 5) rfl rfl Tryd.func9 (by kernel_rfl) rfl #[.slice Ao9 y114.length co9] rfl (by (try simp only [List.map_toArray, List.map_cons, List.map_nil]); first | done | rfl | (simp only [List.length_drop, List.length_take]; rfl)) ?_; (with_reducible refine (index_Pages.calls _ _ y114 t117 t118 _ ?side1 ?side2 ?side3 A1.out).mono ?_); (case side1 => repeat (first | exact (Kd.R_reads' HO116.out).2.2 | (with_reducible refine Kd.C_alloc ?_ _) | (with_reducible refine Kd.C_drewN ?_ _) | (with_reducible refine Kd.C_drew ?_))); (case side2 => exact (Kd.R_reads' HO116.out).2.1); (case side3 => exact GW.under HG.out (by repeat (first | (with_reducible first | exact HB.out | apply below_alloc | apply pw_below_drewN | apply below_drew1) | exact HB.out))); rintro e w10 ⟨rfl, hb⟩; refine ⟨_, rfl, ?_⟩; have n0_ := Aside0.mk (Kd.R_below (by (with_reducible repeat (first | apply Kd.R_alloc | apply Kd.R_drewN | apply Kd.R_drew)); exact HO116.out) hb); have n1_ := Aside0.mk (below_step (by repeat (first | (with_reducible first | exact HB.out | apply below_alloc | apply pw_below_drewN | apply below_drew1) | exact HB.out)) hb); clear HO116; clear HB; have HO116 := n0_; have HB := n1_; clear n0_ n1_; (try clear hb); (try clear hb2); (try clear hk); (try clear hi)))
    go_ret
    exact ⟨by first | rfl | (simp [errW_none, errW_some] <;> rfl) | (simp [*, errW_none, errW_some] <;> rfl), by repeat (first | (with_reducible first | exact HB.out | apply below_alloc | apply pw_below_drewN | apply below_drew1) | exact HB.out)⟩

end Go.Proofs.YtanekljbehhjcaaDoor.PX

namespace Go.Proofs.YtanekljbehhjcaaDoor
open Go.RowKit Go.Proofs.YtanekljbehhjcaaDoorW.PrintWords Go.Proofs.YtanekljbehhjcaaDoor.PX

theorem dec1 (n : Nat) (h : n < 10) : dec (n : Int) = [UInt8.ofNat (48 + n)] := by
  unfold dec; rw [Int.toNat_natCast, Lib.decDigits, dif_pos h]
theorem sane_pages : pagesOf [3, 1, 2, 7] = (bar [49, 45, 51, 44, 32, 55], 0) := by
  have h0 : ([3, 1, 2, 7] : List Int).any badPage = false := by decide
  have h1 : sortD [3, 1, 2, 7] = [1, 2, 3, 7] := by decide
  have r0 : runTo [1, 2, 3, 7] 0 = 2 := by decide
  have r3 : runTo [1, 2, 3, 7] 3 = 3 := by decide
  unfold pagesOf
  rw [h0, if_neg (by simp), h1]
  have p : partsFrom [1, 2, 3, 7] 0 = [[49, 45, 51], [55]] := by
    rw [partsFrom_run (by decide) (by rw [r0]; decide), r0, partsFrom_one (by decide) (by rw [r3]; decide), partsFrom_end (by decide)]
    rw [show ([1, 2, 3, 7] : List Int).getD 0 0 = ((1 : Nat) : Int) from rfl, show ([1, 2, 3, 7] : List Int).getD 2 0 = ((3 : Nat) : Int) from rfl, show ([1, 2, 3, 7] : List Int).getD (2 + 1) 0 = ((7 : Nat) : Int) from rfl]
    rw [dec1 1 (by decide), dec1 3 (by decide), dec1 7 (by decide)]
    rfl
  unfold pagesT
  rw [p]
  rfl
theorem sane_some : frisketlaw27_sane.f = some true := by
  unfold frisketlaw27_sane.f index_Pages.f
  rw [if_pos (by decide), sane_pages]
  rw [Option.bind_some, bar_toList]
  rfl
theorem sane_any (w : World) (hG : GW w) : Calls Tryd.prog 6 #[] w fun e w' => e = .returned (.bool true) ∧ Below w.heap.size w w' := frisketlaw27_sane.calls true w hG sane_some
end Go.Proofs.YtanekljbehhjcaaDoor

namespace Go.Proofs.YtanekljbehhjcaaDoor
open Go.RowKit

/-- A store into the variable's block is abided. -/
def AbidesBox {β : Type} (Bs : Nat) (J : β → World → Prop) : Prop := ∀ s W u, J s W → J s (W.setCell ⟨Bs, 0, none⟩ u)
theorem AbidesBox.and {β : Type} {Bs : Nat} {I I' : β → World → Prop} (h : AbidesBox Bs I) (h' : AbidesBox Bs I') : AbidesBox Bs (fun s W => I s W ∧ I' s W) := fun s W u hs => ⟨h s W u hs.1, h' s W u hs.2⟩
theorem abidesBox_below {β : Type} {n₀ Bs : Nat} {w₀ : World} (h : n₀ ≤ Bs) : AbidesBox Bs (fun (_ : β) W => Below n₀ w₀ W) := fun _ _ u hs => hs.setCell (p := ⟨Bs, 0, none⟩) h u
theorem abidesBox_boxed {β : Type} {B Bs : Nat} {t : TypeId} (f : β → Value) (h : B ≠ Bs) : AbidesBox Bs (fun s W => Boxed W B t (f s)) := fun _ _ u hs => Boxed.other hs h u
theorem heap_kept_box {W : World} {Bs k : Nat} {o : Obj} (u : Value) (h : W.heap[k]? = some o) (hne : k ≠ Bs) : (W.setCell ⟨Bs, 0, none⟩ u).heap[k]? = some o := (Below.heap_setCell W ⟨Bs, 0, none⟩ u k hne).trans h

/-- The iterator's contract: it may store into the block of its own variable (Bs). -/
def SeqBox {α : Type} (F : Fence) (n : Nat) (P : Program) (g : Nat) (lb : Array Value) (encs : α → Array Value) (Bs : Nat) (Kp : World → World → Prop) (S Sp : List α → Prop) (N : Nat) (w : World) : Prop :=
  ∀ (l : Nat) (J Jx : List α → World → Prop) (W : World), Below w.heap.size w W → AbidesFrom W.heap.size J → AbidesFrom W.heap.size Jx → AbidesBox Bs J → AbidesBox Bs Jx →
    (∀ pre x W1, J pre W1 → pre.length < N → YieldAt F (n - 1) P l (encs x) W1 fun e W' =>
      (e = .returned (.bool true) ∧ J (pre ++ [x]) W' ∧ Kp W1 W') ∨ (e = .returned (.bool false) ∧ Jx (pre ++ [x]) W')) →
    J [] W →
    CallsIn F n P g (#[.func (.yield l) #[] #[]] ++ lb) W fun e W' => (∃ v, e = .returned v) ∧ ((∃ xs, S xs ∧ J xs W') ∨ (∃ pre, Sp pre ∧ Jx pre W'))

/-- How a round's body may be left: it goes on, or it returns out of the whole. -/
def boxPost {α : Type} (B : Nat) (Kp : World → World → Prop) (I Ix : List α → World → Prop) (xs : List α) (W : World) : Exit → Act → World → Prop
  | .normal, _, W' => KeepsFrom B W W' ∧ Kp W W' ∧ I xs W'
  | .ret, _, W' => KeepsFrom B W W' ∧ Ix xs W'
  | _, _, _ => False

variable {F : Fence} {n : Nat} {P : Program}

theorem wpIn_rangeBox {α : Type} {g : Operand} {ps : Array Tmp} {assign body : Code} {Q : Exit → Act → World → Prop} {a : Act} {w : World}
    (hro : F.round = none) (h1 : 1 ≤ n) {gf : Nat} {lb : Array Value} (hg : a.eval g = .func (.func gf) #[] lb) (hFg : F.fn gf) (eg : ∀ args w, (callFunc gf args).run P w = .ok (.enter gf args) w)
    {encs : α → Array Value} {Bs : Nat} {Kp : World → World → Prop} {S Sp : List α → Prop} {N : Nat} (hseq : SeqBox F (n - 1) P gf lb encs Bs Kp S Sp N w) (hBs : Bs < w.heap.size)
    (hKt : ∀ {A B C : World}, Kp A B → Kp B C → Kp A C) (hKb : ∀ (W : World) (l : Nat) (o o' : Obj), w.heap.size ≤ l → W.heap[l]? = some o → o.isCells = false → o.isWalk = false → Kp W (W.putObj l o')) (hps : ∀ x, (encs x).size = ps.size)
    (I Ix : List α → World → Prop) (hI : OwnFrom w.heap.size I) (hIx : OwnFrom w.heap.size Ix) (hIb : AbidesBox Bs I) (hIxb : AbidesBox Bs Ix) (h0 : I [] w)
    (Ax : α → Act → World → Prop) (hAx : ∀ x a', OwnFrom w.heap.size (fun (_ : Unit) W => Ax x a' W))
    (hassign : ∀ (l : Nat) (pre : List α) (x : α) (W : World) (K : Act → World → Prop), I pre W → (∀ a' W', KeepsFrom w.heap.size W W' → Kp W W' → I pre W' → Ax x a' W' → K a' W') →
      assign.wpIn (F.inRound l) (n - 1 - 1) P (Exit.then K (fun _ _ _ => False)) { tmps := (ps.zip (encs x)).foldl (fun t (p, v) => t.setIfInBounds p v) a.tmps, defers := [] } W)
    (hbody : ∀ (l : Nat) (pre : List α) (x : α) (a' : Act) (W : World), w.heap.size ≤ l → (∃ r, W.heap[l]? = some (.loop r)) → I pre W → Ax x a' W → pre.length < N → body.wpIn (F.inRound l) (n - 1 - 1) P (boxPost w.heap.size Kp I Ix (pre ++ [x]) W) a' W)
    (hdone : ∀ (D : Nat) (xs : List α) (W : World), w.heap.size ≤ D → S xs → I xs W → W.heap[D]? = some (.deferred (some [])) → Q .normal { a with defers := { target := .collected D, args := #[] } :: a.defers } W)
    (hstop : ∀ (D : Nat) (pre : List α) (W : World), w.heap.size ≤ D → Sp pre → Ix pre W → W.heap[D]? = some (.deferred (some [])) → Code.ret.wpIn F n P Q { a with defers := { target := .collected D, args := #[] } :: a.defers } W) :
    (Code.rangeFunc g ps assign body).wpIn F n P Q a w := by
  refine wpIn_rangeFunc ?_
  intro fn hfn
  rw [hro]
  obtain ⟨rec, hrec⟩ : ∃ rec : LoopState → Option Code → Loop, rec = fun st pe => { state := st, pending := pe, fn, tmps := a.tmps, params := ps, assign, body, defers := w.heap.size } := ⟨_, rfl⟩
  obtain ⟨W1, hW1⟩ : ∃ W1, (w.alloc (.deferred (some []))).alloc (.loop (rec .ready none)) = W1 := ⟨_, rfl⟩
  have hL1 : W1.heap[w.heap.size + 1]? = some (.loop (rec .ready none)) := by
    rw [← hW1]; have := World.alloc_heap_new (w.alloc (.deferred (some []))) (.loop (rec .ready none)); rwa [World.size_alloc] at this
  have hK1 : W1.heap[w.heap.size]? = some (.deferred (some [])) := by
    rw [← hW1]; exact (Below.heap_alloc _ _ _ (by simp)).trans (World.alloc_heap_new w _)
  have hI1 : I [] W1 := by rw [← hW1]; exact hI.alloc _ (hI.alloc _ h0)
  have hb1 : Below w.heap.size w W1 := by
    rw [← hW1]; exact ((Below.refl _ w).alloc (Nat.le_refl _) _).alloc (by simp) _
  have hz1 : W1.heap.size = w.heap.size + 2 := by rw [← hW1]; simp
  refine ⟨w.heap.size + 1, [{ target := .collected w.heap.size, args := #[] }], W1, { target := .fn (.func gf) lb, args := #[.func (.yield (w.heap.size + 1)) #[] #[]] }, W1, gf,
    #[.func (.yield (w.heap.size + 1)) #[] #[]] ++ lb, W1, ?_, ?_, ?_, ?_, fun _ => h1, ?_⟩
  · rw [← hW1, hrec]; exact run_enterLoop_outer _ _ _ _ _
  · simp only [resolve, hg]
    simp [go_sem]
  · intro f' hf'; simp [Target.leads] at hf'; subst hf'; exact hFg
  · simp [invoke, go_sem, eg]
  · have hnw : ∀ {A B : World} {row : Option Nat}, (∀ r, row = some r → W1.heap.size ≤ r ∧ ∃ o : Obj, A.heap[r]? = some o ∧ o.isWalk = true) → (∀ r, row = some r → w.heap.size ≤ r ∧ ∃ o : Obj, A.heap[r]? = some o ∧ o.isCells = false) :=
      fun hr r e => by obtain ⟨hB, o, ho, hw⟩ := hr r e; exact ⟨by omega, o, ho, Obj.not_cells_of_walk hw⟩
    refine (hseq (w.heap.size + 1)
      (fun pre W => I pre W ∧ W.heap[w.heap.size + 1]? = some (.loop (rec .ready none)) ∧ W.heap[w.heap.size]? = some (.deferred (some [])))
      (fun pre W => Ix pre W ∧ W.heap[w.heap.size + 1]? = some (.loop (rec .done (some .ret))) ∧ W.heap[w.heap.size]? = some (.deferred (some [])))
      W1 hb1
      (fun s A B row hs hg' hr => ⟨hI s A B row hs.1 hg' (hnw (B := B) hr), (grownBy_keeps hg' (fun r e => (hr r e).2) hs.2.1 rfl).trans hs.2.1, (grownBy_keeps hg' (fun r e => (hr r e).2) hs.2.2 rfl).trans hs.2.2⟩)
      (fun s A B row hs hg' hr => ⟨hIx s A B row hs.1 hg' (hnw (B := B) hr), (grownBy_keeps hg' (fun r e => (hr r e).2) hs.2.1 rfl).trans hs.2.1, (grownBy_keeps hg' (fun r e => (hr r e).2) hs.2.2 rfl).trans hs.2.2⟩)
      (fun s A u hs => ⟨hIb s A u hs.1, heap_kept_box u hs.2.1 (by omega), heap_kept_box u hs.2.2 (by omega)⟩)
      (fun s A u hs => ⟨hIxb s A u hs.1, heap_kept_box u hs.2.1 (by omega), heap_kept_box u hs.2.2 (by omega)⟩)
      ?_ ⟨hI1, hL1, hK1⟩).mono ?_
    · rintro pre x W ⟨hi, hl, hk⟩ hlen
      have hlt : w.heap.size + 1 < W.heap.size := (Array.getElem?_eq_some_iff.1 hl).1
      have hy := run_yield (P := P) (args := encs x) hl (by rw [hrec]; exact hps x)
      rw [hrec] at hy
      refine ⟨fn, _, assign, body, hy, roundIn_of_wpIn hfn (hassign _ pre x W _ hi ?_)⟩
      clear hy
      intro a' Wa hkfa hkpa hia hax
      replace hl := hkfa.same _ _ (by omega) hl rfl
      replace hk := hkfa.same _ _ (Nat.le_refl _) hk rfl
      replace hlt : w.heap.size + 1 < Wa.heap.size := (Array.getElem?_eq_some_iff.1 hl).1
      refine ⟨_, run_beginRound hl (by rw [hrec]), ?_⟩
      have hl2 : (Wa.putObj (w.heap.size + 1) (.loop { rec .ready none with state := .busy })).heap[w.heap.size + 1]? = some (.loop { rec .ready none with state := .busy }) := World.putObj_heap_same hlt
      have hk2 : (Wa.putObj (w.heap.size + 1) (.loop { rec .ready none with state := .busy })).heap[w.heap.size]? = some (.deferred (some [])) := (World.putObj_heap_other (by omega)).trans hk
      have hw2 : Kp Wa (Wa.putObj (w.heap.size + 1) (.loop { rec .ready none with state := .busy })) := hKb _ _ _ _ (by omega) hl rfl rfl
      refine wpIn_mono (hbody _ pre x a' _ (by omega) ⟨_, hl2⟩ (hI.putObj _ hia (by omega) hl rfl) ((hAx x a').putObj (s := ()) _ hax (by omega) hl rfl) hlen) ?_
      have fin : ∀ (jump : Option Code) (W3 : World), KeepsFrom w.heap.size (Wa.putObj (w.heap.size + 1) (.loop { rec .ready none with state := .busy })) W3 →
          (Instr.endRound (w.heap.size + 1) jump).run P W3 = .ok (.bool jump.isNone) (W3.putObj (w.heap.size + 1) (.loop (rec (if jump.isNone then .ready else .done) jump))) ∧
          W3.heap[w.heap.size + 1]? = some (.loop { rec .ready none with state := .busy }) ∧
          (W3.putObj (w.heap.size + 1) (.loop (rec (if jump.isNone then .ready else .done) jump))).heap[w.heap.size + 1]? = some (.loop (rec (if jump.isNone then .ready else .done) jump)) ∧
          (W3.putObj (w.heap.size + 1) (.loop (rec (if jump.isNone then .ready else .done) jump))).heap[w.heap.size]? = some (.deferred (some [])) := fun jump W3 hk3 => by
        have hl3 := hk3.same _ _ (by omega) hl2 rfl
        have := run_endRound (P := P) jump hl3
        rw [hrec] at this ⊢
        exact ⟨this, by rw [hrec] at hl3; exact hl3, World.putObj_heap_same (Array.getElem?_eq_some_iff.1 hl3).1, (World.putObj_heap_other (by omega)).trans (hk3.same _ _ (Nat.le_refl _) hk2 rfl)⟩
      rintro e a3 W3 hp
      cases e with
      | normal =>
        obtain ⟨hk3, hkp3, hi3⟩ := hp
        obtain ⟨hr, hl3, hl4, hk4⟩ := fin none W3 hk3
        exact ⟨_, _, hr, .inl ⟨rfl, ⟨hI.putObj _ hi3 (by omega) hl3 rfl, hl4, hk4⟩, hKt hkpa (hKt (hKt hw2 hkp3) (hKb _ _ _ _ (by omega) hl3 rfl rfl))⟩⟩
      | ret =>
        obtain ⟨hk3, hi3⟩ := hp
        obtain ⟨hr, hl3, hl4, hk4⟩ := fin (some .ret) W3 hk3
        exact ⟨_, _, hr, .inr ⟨rfl, hIx.putObj _ hi3 (by omega) hl3 rfl, hl4, hk4⟩⟩
      | exit id => exact hp.elim
      | goto t => exact hp.elim
      | panic ch => exact hp.elim
      | outgrown => exact hp.elim
    · rintro e W2 ⟨⟨v, rfl⟩, (⟨xs, hS, hi, hl, hk⟩ | ⟨pre, hSp, hi, hl, hk⟩)⟩
      · exact ⟨none, _, by have := run_endLoop (P := P) hl (by rw [hrec]; simp); rw [hrec] at this; exact this, hdone _ xs _ (Nat.le_refl _) hS (hI.putObj _ hi (by omega) hl rfl) ((World.putObj_heap_other (by omega)).trans hk)⟩
      · exact ⟨some .ret, _, by have := run_endLoop (P := P) hl (by rw [hrec]; simp); rw [hrec] at this; exact this, hstop _ pre _ (Nat.le_refl _) hSp (hIx.putObj _ hi (by omega) hl rfl) ((World.putObj_heap_other (by omega)).trans hk)⟩
end Go.Proofs.YtanekljbehhjcaaDoor

namespace Go.Proofs.YtanekljbehhjcaaDoor
open Go.RowKit Go.Shelf
attribute [local go_sem] Oper.semAt_some

/-- The pieces of a text between separators. -/
def splitG (sep : List UInt8) : Nat → List UInt8 → List (List UInt8)
  | 0, s => [s]
  | n + 1, s => if Lib.index s sep < 0 then [s] else s.take (Lib.index s sep).toNat :: splitG sep n (s.drop ((Lib.index s sep).toNat + sep.length))
theorem index_room : ∀ (s p : List UInt8), 0 ≤ Lib.index s p → (Lib.index s p).toNat + p.length ≤ s.length
  | [], p, h => by
    unfold Lib.index at h ⊢
    split
    · rename_i hp
      have : p = [] := List.isEmpty_iff.1 hp
      subst this; simp
    · rename_i hp; simp [hp] at h
  | c :: s, p, h => by
    unfold Lib.index at h ⊢
    split
    · rename_i hp
      have := List.IsPrefix.length_le (List.isPrefixOf_iff_prefix.1 hp)
      simpa using this
    · rename_i hp
      have ih := index_room s p
      rw [if_neg hp] at h
      split at h
      · omega
      · rename_i h2
        have h3 : Lib.index s p ≠ -1 := by simpa using h2
        have h4 := Lib.index_ge s p
        have := ih (by omega)
        rw [if_neg h2]
        simp only [List.length_cons]
        omega
theorem index_nil (p : List UInt8) (h : p ≠ []) : Lib.index [] p = -1 := by
  unfold Lib.index
  rw [if_neg]; simpa using h
theorem splitG_more (sep : List UInt8) (hs : sep ≠ []) : ∀ (n m : Nat) (s : List UInt8), s.length ≤ n → s.length ≤ m → splitG sep n s = splitG sep m s := by
  have hp : 0 < sep.length := List.length_pos_iff.2 hs
  intro n
  induction n with
  | zero =>
    intro m s h1 _
    have : s = [] := List.eq_nil_of_length_eq_zero (by omega)
    subst this
    cases m with
    | zero => rfl
    | succ m =>
      simp only [splitG]
      rw [index_nil sep hs, if_pos (by decide)]
  | succ n ih =>
    intro m s h1 h2
    cases m with
    | zero =>
      have : s = [] := List.eq_nil_of_length_eq_zero (by omega)
      subst this
      simp only [splitG]
      rw [index_nil sep hs, if_pos (by decide)]
    | succ m =>
      simp only [splitG]
      split
      · rfl
      · rw [ih m _ (by rw [List.length_drop]; omega) (by rw [List.length_drop]; omega)]
theorem splitG_len (sep : List UInt8) (n : Nat) : ∀ s : List UInt8, (splitG sep n s).length ≤ n + 1 := by
  induction n with
  | zero => intro s; simp [splitG]
  | succ n ih =>
    intro s
    simp only [splitG]
    split
    · simp
    · have := ih (s.drop ((Lib.index s sep).toNat + sep.length))
      simp only [List.length_cons]; omega

/-- Between two rounds the iterator's own blocks lie as they lay, and what the caller found. -/
def KeepB (n₀ Bs : Nat) (W W' : World) : Prop := Below n₀ W W' ∧ ∀ k, Bs ≤ k → k < Bs + 3 → W'.heap[k]? = W.heap[k]?
theorem keepB_t {n₀ Bs : Nat} {A B C : World} (h : KeepB n₀ Bs A B) (k : KeepB n₀ Bs B C) : KeepB n₀ Bs A C := ⟨h.1.trans k.1, fun i h1 h2 => (k.2 i h1 h2).trans (h.2 i h1 h2)⟩
theorem keepB_b {n₀ Bs : Nat} {w : World} (hn : n₀ ≤ w.heap.size) (hB : Bs + 3 ≤ w.heap.size) (W : World) (l : Nat) (o o' : Obj) (hl : w.heap.size ≤ l) (h : W.heap[l]? = some o) (h1 : o.isCells = false) (h2 : o.isWalk = false) : KeepB n₀ Bs W (W.putObj l o') :=
  ⟨belowK_b hn W l o o' hl h h1 h2, fun k _ hk => World.putObj_heap_other (by omega)⟩

set_option maxHeartbeats 1000000 in
theorem splitSeqK_in (F : Fence) (n : Nat) (h5 : F.fn 44) (hro : F.round = none) (s sep : ByteArray) (w : World) :
    CallsIn F n Tryd.prog 44 #[.string s, .string sep, .int .i64 0] w fun e w' => e = .returned (.func (.func 59) #[] #[.pointer (some ⟨w.heap.size + 1, 0, none⟩), .pointer (some ⟨w.heap.size, 0, none⟩), .pointer (some ⟨w.heap.size + 1 + 1, 0, none⟩)]) ∧
      w' = ((w.alloc (.cells #[.string s] 9)).alloc (.cells #[.string sep] 9)).alloc (.cells #[.int .i64 0] 3) := by
  refine callsIn_of_wp Tryd.func44 rfl h5 ?_ hro
  simp only [Tryd.ntmps44, List.size_toArray, List.length_cons, List.length_nil, Nat.reduceAdd, Nat.reduceSub, Array.replicate_succ, Array.replicate_zero, List.push_toArray, List.append_toArray, List.nil_append, List.cons_append]
  gi_wp2
  go_ret
  exact ⟨rfl, rfl⟩
set_option maxHeartbeats 1000000 in
theorem splitSeq_in (F : Fence) (n : Nat) (h4 : F.fn 29) (h5 : F.fn 44) (hro : F.round = none) (hn : 1 ≤ n) (s sep : ByteArray) (w : World) :
    CallsIn F n Tryd.prog 29 #[.string s, .string sep] w fun e w' => e = .returned (.func (.func 59) #[] #[.pointer (some ⟨w.heap.size + 1, 0, none⟩), .pointer (some ⟨w.heap.size, 0, none⟩), .pointer (some ⟨w.heap.size + 1 + 1, 0, none⟩)]) ∧
      w' = ((w.alloc (.cells #[.string s] 9)).alloc (.cells #[.string sep] 9)).alloc (.cells #[.int .i64 0] 3) := by
  refine callsIn_of_wp Tryd.func29 rfl h4 ?_ hro
  simp only [Tryd.ntmps29, List.size_toArray, List.length_cons, List.length_nil, Nat.reduceAdd, Nat.reduceSub, Array.replicate_succ, Array.replicate_zero, List.push_toArray, List.append_toArray, List.nil_append, List.cons_append]
  gi_wp2_with (gi_at_call 44; refine (splitSeqK_in F (n - 1) h5 hro s sep w).mono ?_; rintro e w' ⟨rfl, rfl⟩)
  go_ret
  exact ⟨rfl, rfl⟩

/-- A text that is not too long. -/
abbrev Sb : Type := { x : ByteArray // x.size ≤ 1000000000 }
abbrev tl (l : List Sb) : List (List UInt8) := l.map fun b => b.1.data.toList
/-- What the loop of the iterator keeps. -/
def SplitJ (n₀ Bs : Nat) (sep s : ByteArray) (W0 : World) (J : List Sb → World → Prop) (wr : World) : Prop :=
  ∃ (pre : List Sb) (rest : ByteArray), Boxed wr Bs 9 (.string rest) ∧ splitG sep.data.toList s.size s.data.toList = tl pre ++ splitG sep.data.toList rest.size rest.data.toList ∧ pre.length + rest.size ≤ s.size ∧ J pre wr
    ∧ Boxed wr (Bs + 1) 9 (.string sep) ∧ Boxed wr (Bs + 1 + 1) 3 (.int .i64 0) ∧ Below n₀ W0 wr
/-- How much of the text is left (the loop's measure, read off the iterator's own variable). -/
def leftOf (Bs : Nat) (w : World) : Nat := match w.heap[Bs]? with | some (Obj.cells c _ _) => (match c[0]? with | some (Value.string s) => s.size | _ => 0) | _ => 0
theorem leftOf_eq {Bs : Nat} {w : World} {t : TypeId} {s : ByteArray} (h : Boxed w Bs t (.string s)) : leftOf Bs w = s.size := by
  unfold leftOf; rw [show w.heap[Bs]? = _ from h]; rfl
theorem box_same {W W' : World} {B : Nat} {t : TypeId} {v : Value} (h : Boxed W B t v) (e : W'.heap[B]? = W.heap[B]?) : Boxed W' B t v := by
  unfold Boxed at h ⊢; rw [e]; exact h
theorem ext0 (s : ByteArray) (k : Nat) : (s.extract 0 k).data.toList = s.data.toList.take k := by
  rw [Lib.extract_data]; simp
theorem ext1 (s : ByteArray) (k : Nat) : (s.extract k s.size).data.toList = s.data.toList.drop k := by
  rw [Lib.extract_data, List.take_of_length_le (by simp)]
theorem ext0_size (s : ByteArray) (k : Nat) : (s.extract 0 k).size = min k s.size := by simp
theorem ext1_size (s : ByteArray) (k : Nat) : (s.extract k s.size).size = s.size - k := by simp

set_option maxRecDepth 100000 in
set_option maxHeartbeats 4000000 in
theorem split1_in (n : Nat) (hn : 1 ≤ n) (l Bs n₀ : Nat) (hn0 : 0 < n₀) (hnB : n₀ ≤ Bs) (sep s : ByteArray) (hsep : 0 < sep.size) (hsep2 : sep.size ≤ 1000) (hs : s.size ≤ 1000000000) (J Jx : List Sb → World → Prop) (hJb : AbidesBox Bs J)
    (hY : ∀ pre x W, J pre W → pre.length < s.size + 1 → YieldAt Fence.wide (n - 1) Tryd.prog l #[.string x.1] W fun e W' =>
      (e = .returned (.bool true) ∧ J (pre ++ [x]) W' ∧ KeepB n₀ Bs W W') ∨ (e = .returned (.bool false) ∧ Jx (pre ++ [x]) W'))
    (W : World) (m : Int) (hm : W.cell? ⟨0, 0, none⟩ = some (.int .i64 m)) (b0 : Boxed W Bs 9 (.string s)) (b1 : Boxed W (Bs + 1) 9 (.string sep)) (b2 : Boxed W (Bs + 1 + 1) 3 (.int .i64 0)) (h0 : J [] W) :
    CallsIn Fence.wide n Tryd.prog 59 #[.func (.yield l) #[] #[], .pointer (some ⟨Bs + 1, 0, none⟩), .pointer (some ⟨Bs, 0, none⟩), .pointer (some ⟨Bs + 1 + 1, 0, none⟩)] W fun e W' => (∃ v, e = .returned v) ∧
      ((∃ ys, tl ys = splitG sep.data.toList s.size s.data.toList ∧ J ys W') ∨ (∃ pre, tl pre <+: splitG sep.data.toList s.size s.data.toList ∧ Jx pre W')) := by
  refine callsIn_of_wp Tryd.func59 rfl trivial ?_ rfl
  simp only [Tryd.ntmps59, List.size_toArray, List.length_cons, List.length_nil, Nat.reduceAdd, Nat.reduceSub, Array.replicate_succ, Array.replicate_zero, List.push_toArray, List.append_toArray, List.nil_append, List.cons_append]
  have c1 := b1.cell
  have t1 : ((sep.size : Int) == 0) = false := beq_eq_false_iff_ne.2 (by omega)
  have hz : sep.data.toList.length = sep.size := Array.length_toList
  have hne : sep.data.toList ≠ [] := fun e => by rw [e] at hz; simp at hz; omega
  have HZ := Lib.hid hz
  have HNE := Lib.hid hne
  clear hz hne
  gi_wp2
  gi_loopw [7, 8] (fun _ _ wr => SplitJ n₀ Bs sep s W J wr) (fun _ _ wr => leftOf Bs wr)
  case atStart => exact ⟨[], s, b0, rfl, by simp, h0, b1, b2, Below.refl _ _⟩
  case round =>
    obtain ⟨pre, rest, d0, hsp, hlen, hJ, d1, d2, hb⟩ := hrel
    have k0 := d0.cell
    have k1 := d1.cell
    have k2 := d2.cell
    have hm' := (hb.cell (p := ⟨0, 0, none⟩) hn0).trans hm
    have hi := Tryd.strings_Index rest sep m wr (by omega) hm'
    by_cases hpos : 0 ≤ Lib.index rest.data.toList sep.data.toList
    · have hroom := index_room _ _ hpos
      obtain ⟨i, hix⟩ := Int.eq_ofNat_of_zero_le hpos
      have t2 : decide ((i : Int) < 0) = false := by simp
      rw [hix] at hi hroom
      have hz := HZ.out
      have hzr : rest.data.toList.length = rest.size := Array.length_toList
      rw [hz, hzr, Int.toNat_natCast] at hroom
      have HZR := Lib.hid hzr
      clear hz hzr
      have hsp2 : splitG sep.data.toList rest.size rest.data.toList = rest.data.toList.take i :: splitG sep.data.toList (rest.size - (i + sep.size)) (rest.data.toList.drop (i + sep.size)) := by
        have h1 : 0 < rest.size := by omega
        obtain ⟨r, hr⟩ : ∃ r, rest.size = r + 1 := ⟨rest.size - 1, by omega⟩
        rw [hr]
        simp only [splitG]
        rw [if_neg (by omega), hix, Int.toNat_natCast, HZ.out, splitG_more _ HNE.out r (r + 1 - (i + sep.size)) _ (by rw [List.length_drop, HZR.out]; omega) (by rw [List.length_drop, HZR.out]; omega)]
      have HS := Lib.hid hsp
      have HS2 := Lib.hid hsp2
      have HI := Lib.hid hix
      clear hsp hsp2 hix hpos hm'
      obtain ⟨fn, tmps, assign, body, hy, hR⟩ := hY pre ⟨rest.extract 0 i, by rw [ext0_size]; omega⟩ wr hJ (by omega)
      have w1 : IntKind.i64.wrap ((i : Int) + 0) = (i : Int) := by rw [Int.add_zero]; exact IntWalk.i64_in _ (by omega)
      have q2 : (i : Int) ≤ (rest.size : Int) := by omega
      gi_wp2_with (refine ⟨trivial, ?_⟩; gi_at_call 61; refine (callsIn_wide.2 hi).mono ?_; rintro e w' ⟨rfl, rfl⟩)
      refine hR.mono ?_
      rintro e W3 (⟨rfl, hJ3, hk3⟩ | ⟨rfl, hJx3⟩)
      · have d0' := box_same d0 (hk3.2 Bs (Nat.le_refl _) (by omega))
        have d1' := box_same d1 (hk3.2 (Bs + 1) (by omega) (by omega))
        have d2' := box_same d2 (hk3.2 (Bs + 1 + 1) (by omega) (by omega))
        have k0' := d0'.cell
        have k1' := d1'.cell
        have f0' := d0'.frozen
        have w2 : IntKind.i64.wrap ((i : Int) + (sep.size : Int)) = (i : Int) + (sep.size : Int) := IntWalk.i64_in _ (by omega)
        have q3 : (i : Int) + (sep.size : Int) ≤ (rest.size : Int) := by omega
        have q4 : (0 : Int) ≤ (i : Int) + (sep.size : Int) := by omega
        have q5 : ((i : Int) + (sep.size : Int)).toNat = i + sep.size := by omega
        have hb3 := hb.trans hk3.1
        have HK := Lib.hid hk3
        clear hk3 k0 k1 k2 hY hR hy hJ hi hm
        gi_wp2
        refine ⟨⟨pre ++ [⟨rest.extract 0 i, by rw [ext0_size]; omega⟩], rest.extract (i + sep.size) rest.size, d0'.set _, ?_, ?_, hJb _ _ _ hJ3, Boxed.other d1' (by omega) _, Boxed.other d2' (by omega) _, hb3.setCell (p := ⟨Bs, 0, none⟩) hnB _⟩, ?_⟩
        · rw [HS.out, HS2.out, ext1_size, ext1]
          simp [tl]
        · rw [ext1_size]; simp; omega
        · rw [leftOf_eq (d0'.set _), leftOf_eq d0, ext1_size]; omega
      · gi_wp2
        refine bodyPost_ret (results_none rfl _ _ _) rfl ?_
        refine ⟨⟨_, rfl⟩, .inr ⟨pre ++ [⟨rest.extract 0 i, by rw [ext0_size]; omega⟩], ?_, hJx3⟩⟩
        rw [HS.out, HS2.out]
        exact ⟨splitG sep.data.toList (rest.size - (i + sep.size)) (rest.data.toList.drop (i + sep.size)), by simp [tl, ext0]⟩
    · have t2 : decide (Lib.index rest.data.toList sep.data.toList < 0) = true := by simp; omega
      have hsp2 : splitG sep.data.toList rest.size rest.data.toList = [rest.data.toList] := by
        cases hr : rest.size with
        | zero => rfl
        | succ r => simp only [splitG]; rw [if_pos (by omega)]
      have HS := Lib.hid hsp
      have HS2 := Lib.hid hsp2
      clear hsp hsp2 hm'
      generalize Lib.index rest.data.toList sep.data.toList = i at hi hpos t2
      obtain ⟨fn, tmps, assign, body, hy, hR⟩ := hY pre ⟨rest, by omega⟩ wr hJ (by omega)
      gi_wp2_with (refine ⟨trivial, ?_⟩; gi_at_call 61; refine (callsIn_wide.2 hi).mono ?_; rintro e w' ⟨rfl, rfl⟩)
      refine hR.mono ?_
      rintro e W3 (⟨rfl, hJ3, hk3⟩ | ⟨rfl, hJx3⟩)
      · gi_wp2
        go_end0
        exact ⟨⟨_, rfl⟩, .inl ⟨pre ++ [⟨rest, by omega⟩], by rw [HS.out, HS2.out]; simp [tl], hJ3⟩⟩
      · gi_wp2
        go_end0
        exact ⟨⟨_, rfl⟩, .inr ⟨pre ++ [⟨rest, by omega⟩], by rw [HS.out, HS2.out]; simp [tl], hJx3⟩⟩
/-- The contract of what strings.SplitSeq hands back. -/
theorem split_stops (n : Nat) (hn : 1 ≤ n) (Bs n₀ : Nat) (hn0 : 0 < n₀) (hnB : n₀ ≤ Bs) (sep s : ByteArray) (hsep : 0 < sep.size) (hsep2 : sep.size ≤ 1000) (hs : s.size ≤ 1000000000) (w : World) (m : Int) (hm : w.cell? ⟨0, 0, none⟩ = some (.int .i64 m)) (hB : Bs + 3 ≤ w.heap.size)
    (b0 : Boxed w Bs 9 (.string s)) (b1 : Boxed w (Bs + 1) 9 (.string sep)) (b2 : Boxed w (Bs + 1 + 1) 3 (.int .i64 0)) :
    SeqBox Fence.wide n Tryd.prog 59 #[.pointer (some ⟨Bs + 1, 0, none⟩), .pointer (some ⟨Bs, 0, none⟩), .pointer (some ⟨Bs + 1 + 1, 0, none⟩)] (fun x : Sb => #[Value.string x.1]) Bs (KeepB n₀ Bs)
      (fun ys => tl ys = splitG sep.data.toList s.size s.data.toList) (fun pre => tl pre <+: splitG sep.data.toList s.size s.data.toList) (s.size + 1) w := fun l J Jx W hW _ _ hJb _ hY h0 =>
  split1_in n hn l Bs n₀ hn0 hnB sep s hsep hsep2 hs J Jx hJb hY W m ((hW.cell (p := ⟨0, 0, none⟩) (by show 0 < w.heap.size; omega)).trans hm) (box_same b0 (hW.block _ (by omega))) (box_same b1 (hW.block _ (by omega))) (box_same b2 (hW.block _ (by omega))) h0
end Go.Proofs.YtanekljbehhjcaaDoor

namespace Go.Proofs.YtanekljbehhjcaaDoor
open Go.RowKit

theorem growN (w : World) (n : Nat) : Below w.heap.size w (w.drewN n) := ⟨rfl, rfl, rfl, Nat.le_refl _, fun _ _ => rfl⟩
/-- What stands ahead of a byte, what behind it, and whether it is there. -/
def cutB (l : List UInt8) (b : UInt8) : List UInt8 × List UInt8 × Bool :=
  if 0 ≤ Lib.indexByte l b then (l.take (Lib.indexByte l b).toNat, l.drop ((Lib.indexByte l b).toNat + 1), true) else (l, [], false)

set_option maxRecDepth 100000 in
set_option maxHeartbeats 1000000 in
theorem lite_cut_one (s : ByteArray) (b : UInt8) (w : World) (hs : s.size ≤ 9223372036854775807) (hi : ∀ (i : Int), Lib.indexByte s.data.toList b = i → 0 ≤ i → i < s.size) :
    Calls Tryd.prog 33 #[.string s, .string ⟨#[b]⟩] w fun e w' => e = .returned (.tuple #[.string (bar (cutB s.data.toList b).1), .string (bar (cutB s.data.toList b).2.1), .bool (cutB s.data.toList b).2.2]) ∧ Below w.heap.size w w' := by
  have h := Tryd.stringslite_Index_one s b w
  unfold cutB
  generalize Lib.indexByte s.data.toList b = i at h hi ⊢
  by_cases h0 : 0 ≤ i
  · have h1 := hi i rfl h0
    rw [if_pos h0]
    obtain ⟨n, rfl⟩ := Int.eq_ofNat_of_zero_le h0
    rw [Int.toNat_natCast]
    have hn : n < s.size := by omega
    have e1 : s.extract 0 n = bar (s.data.toList.take n) := by
      apply ByteArray.ext; apply Array.toList_inj.1; simp [bar]
    have e2 : s.extract (n + 1) s.size = bar (s.data.toList.drop (n + 1)) := by
      apply ByteArray.ext; apply Array.toList_inj.1
      simp [bar]
      rw [List.take_of_length_le (by simp)]
    have E1 := Lib.hid e1
    have E2 := Lib.hid e2
    have w1 : IntKind.i64.wrap ((n : Int) + 1) = (n : Int) + 1 := IntWalk.i64_in _ (by omega)
    have q1 : ((n : Int) + 1).toNat = n + 1 := by omega
    have q2 : (n : Int) ≤ (s.size : Int) := by omega
    have q3 : (n : Int) + 1 ≤ (s.size : Int) := by omega
    have q4 : (0 : Int) ≤ (n : Int) + 1 := by omega
    clear e1 e2 hi
    go_enter Tryd.func33, Tryd.ntmps33
    go_wp2_with fail
    refine h.mono ?_; rintro e w' ⟨rfl, rfl⟩
    go_wp2_with fail
    go_quiet (fail)
    go_wp2_with fail
    go_ret3
    exact ⟨by rw [← E1.out, ← E2.out]; rfl, (Below.refl w'.heap.size w').trans (growN w' nq)⟩
  · rw [if_neg h0]
    go_enter Tryd.func33, Tryd.ntmps33
    go_wp2_with fail
    refine h.mono ?_; rintro e w' ⟨rfl, rfl⟩
    go_wp2_with fail
    go_ret3
    exact ⟨by rw [bar_of]; rfl, Below.refl _ _⟩
theorem index_lt (l : List UInt8) (b : UInt8) (h : 0 ≤ Lib.indexByte l b) : Lib.indexByte l b < l.length := by
  obtain ⟨o, e⟩ := Int.eq_ofNat_of_zero_le h
  have := (Lib.indexByte_some e).1
  obtain ⟨h1, _⟩ := List.getElem?_eq_some_iff.1 this
  rw [e]; omega
set_option maxRecDepth 100000 in
theorem cut_one (s : ByteArray) (b : UInt8) (w : World) (hs : s.size ≤ 9223372036854775807) :
    Calls Tryd.prog 15 #[.string s, .string ⟨#[b]⟩] w fun e w' => e = .returned (.tuple #[.string (bar (cutB s.data.toList b).1), .string (bar (cutB s.data.toList b).2.1), .bool (cutB s.data.toList b).2.2]) ∧ Below w.heap.size w w' := by
  have h := lite_cut_one s b w hs (fun i e h0 => by
    rw [← e] at h0 ⊢
    have := index_lt _ _ h0
    rwa [show s.data.toList.length = s.size from Array.length_toList] at this)
  generalize cutB s.data.toList b = c at h ⊢
  go_enter Tryd.func15, Tryd.ntmps15
  go_wp2_with fail
  refine h.mono ?_; rintro e w' ⟨rfl, hb⟩
  go_wp2_with fail
  go_ret3
  exact ⟨rfl, hb⟩

/-- strconv.Atoi: the number, and whether the text is one. -/
def atoiN (l : List UInt8) : Int := match Lib.atoiAll l with | .ok v => v | .range => Lib.atoiSat l | _ => 0
def atoiB (l : List UInt8) : Bool := match Lib.atoiAll l with | .ok _ => true | _ => false
theorem atoi_any (s : ByteArray) (w : World) (hs : s.size ≤ 140737488355328) (hG : GW w) :
    Calls Tryd.prog 16 #[.string s] w fun e w' => ∃ ev, e = .returned (.tuple #[.int .i64 (atoiN s.data.toList), ev]) ∧ (atoiB s.data.toList = true → ev = .nilIface) ∧ (atoiB s.data.toList = false → ∃ te pe, ev = .iface te pe) ∧ Below w.heap.size w w' := by
  unfold atoiN atoiB
  cases h : Lib.atoiAll s.data.toList with
  | ok v =>
    refine (Tryd.strconv_Atoi_ok s (by omega) v h w).mono fun e w' ⟨h1, h2⟩ => ⟨.nilIface, h1, fun _ => rfl, (fun h => nomatch h), ?_⟩
    rcases h2 with rfl | ⟨t, rfl⟩
    · exact Below.refl _ _
    · exact Lib.bytesWorld_below _ _ _
  | range =>
    obtain ⟨tp, p, hv⟩ := hG.rng
    exact (Tryd.strconv_Atoi_range_var s (by omega) h tp p w hv).mono fun e w' ⟨N, h1, _, _, h2⟩ => ⟨_, h1, (fun h => nomatch h), fun _ => ⟨_, _, rfl⟩, h2⟩
  | _ =>
    obtain ⟨tp, p, hv⟩ := hG.synt
    exact (Tryd.strconv_Atoi_syntax_var s (by omega) h tp p w hv).mono fun e w' ⟨N, h1, _, _, h2⟩ => ⟨_, h1, (fun h => nomatch h), fun _ => ⟨_, _, rfl⟩, h2⟩
end Go.Proofs.YtanekljbehhjcaaDoor

namespace Go.Proofs.YtanekljbehhjcaaDoor
open Go.RowKit Go.Proofs.YtanekljbehhjcaaDoorW.PrintWords Go.Proofs.YtanekljbehhjcaaDoor.PX

def preI : List UInt8 := [105, 110, 100, 101, 120, 32]
def restN (x : S28) : List UInt8 := Lib.trimPrefix x.f2.data.toList preI
def pageN (x : S28) : List UInt8 := (cutB (restN x) 32).1
/-- Whether a note is an entry. -/
def isNote (x : S28) : Bool := decide (x.f1 = 9) && (Lib.hasPrefix x.f2.data.toList preI && ((cutB (restN x) 32).2.2 && (atoiB (pageN x) && (decide (Lib.itoa (atoiN (pageN x)) = pageN x) && (decide (0 ≤ atoiN (pageN x)) && decide (atoiN (pageN x) ≤ 1000000))))))
def entryN (x : S28) : ByteArray × Int := (bar (cutB (restN x) 32).2.1, atoiN (pageN x))
/-- A run's entries. -/
def notesOf (l : List S28) : List (ByteArray × Int) := (l.filter isNote).map entryN
def cellsE (l : List (ByteArray × Int)) : List Value := l.flatMap fun x => [.string x.1, .int .i64 x.2]
theorem cellsE_len (l : List (ByteArray × Int)) : (cellsE l).length = l.length * 2 := by
  induction l with
  | nil => rfl
  | cons a l ih => simp [cellsE] at ih ⊢; omega
theorem cellsE_snoc (l : List (ByteArray × Int)) (x : ByteArray × Int) : cellsE (l ++ [x]) = cellsE l ++ [.string x.1, .int .i64 x.2] := by simp [cellsE]
theorem notesOf_yes (l : List S28) (k : Nat) (x : S28) (h : l[k]? = some x) (hn : isNote x = true) : notesOf (l.take (k + 1)) = notesOf (l.take k) ++ [entryN x] := by
  unfold notesOf; rw [List.take_add_one, h]; simp [List.filter_append, hn]
theorem notesOf_no (l : List S28) (k : Nat) (x : S28) (h : l[k]? = some x) (hn : isNote x = false) : notesOf (l.take (k + 1)) = notesOf (l.take k) := by
  unfold notesOf; rw [List.take_add_one, h]; simp [List.filter_append, hn]
theorem notesOf_le (l : List S28) (k : Nat) : (notesOf (l.take k)).length ≤ k := by
  unfold notesOf
  rw [List.length_map]
  exact Nat.le_trans (List.length_filter_le _ _) (List.length_take_le _ _)
theorem inf34 : (Tryd.prog.info? 34).map (fun i => (i.zero, i.size, i.bytes)) = some (some (.agg #[.string ⟨#[]⟩, .int .i64 0]), 2, 24) := by kernel_rfl
theorem trimPrefix_le (s p : List UInt8) : (Lib.trimPrefix s p).length ≤ s.length := by
  unfold Lib.trimPrefix; split
  · simp
  · exact Nat.le_refl _
theorem cutB_le (l : List UInt8) (b : UInt8) : (cutB l b).1.length ≤ l.length := by
  unfold cutB; split
  · simp; omega
  · exact Nat.le_refl _

theorem atoiN_range (l : List UInt8) : -9223372036854775808 ≤ atoiN l ∧ atoiN l ≤ 9223372036854775807 := by
  unfold atoiN
  cases h : Lib.atoiAll l with
  | ok v =>
    show -9223372036854775808 ≤ v ∧ v ≤ 9223372036854775807
    cases l with
    | nil => simp [Lib.atoiAll] at h
    | cons c r =>
      simp only [Lib.atoiAll] at h
      split at h
      · cases h
      · cases h
      · split at h
        · cases h
        · rename_i h1
          split at h
          · cases h
          · rename_i h2
            injection h with h
            rw [← h]
            by_cases hn : c.toNat = 45
            · rw [if_pos hn]
              have : ¬ 9223372036854775808 < _ := fun h => h2 ⟨hn, h⟩
              omega
            · rw [if_neg hn]
              have : ¬ 9223372036854775808 ≤ _ := fun h => h1 ⟨hn, h⟩
              omega
  | range =>
    show -9223372036854775808 ≤ Lib.atoiSat l ∧ Lib.atoiSat l ≤ 9223372036854775807
    unfold Lib.atoiSat
    split <;> exact ⟨by decide, by decide⟩
  | _ => exact ⟨(by decide : (-9223372036854775808 : Int) ≤ 0), (by decide : (0 : Int) ≤ 9223372036854775807)⟩
set_option maxRecDepth 100000 in
set_option maxHeartbeats 4000000 in
theorem notes_walk (A0 : Option Addr) (c0 : Nat) (l : List S28) (w : World) (hG : GW w) (hr : Kd.C k28 w A0 l.length l) (hl : l.length ≤ 1000000000) (hs : ∀ x ∈ l, x.f2.size ≤ 140737488355328) :
    Calls Tryd.prog 7 #[.slice A0 l.length c0] w fun e w' => ∃ v, e = .returned v ∧ w'.ownsRow w.heap.size 34 2 v (notesOf l).length (cellsE (notesOf l)) ∧ Below w.heap.size w w' := by
  obtain ⟨i0, hi, hz0, hz1, hz2⟩ := info_parts inf34
  go_enter Tryd.func7, Tryd.ntmps7
  go_wp2
  go_loopw [3, 15] (fun v i wr => ∃ k : Nat, k ≤ l.length ∧ i = .int .i64 k ∧ wr.ownsRow w.heap.size 34 2 v (notesOf (l.take k)).length (cellsE (notesOf (l.take k))) ∧ Below w.heap.size w wr) (fun _ i _ => l.length - (intOf i).toNat)
  case atStart => exact ⟨0, Nat.zero_le _, rfl, World.ownsRow_nil _ _ _ _, Below.refl _ _⟩
  case round =>
    obtain ⟨k, hk, rfl, hown, hb⟩ := hrel
    by_cases hlt : k < l.length
    · obtain ⟨ad, e, h0, h1, h2⟩ := at_T28 hr k (by omega) (by omega)
      cases e
      rw [Int.toNat_natCast] at h0 h1 h2
      replace h0 := (hb.cell (World.block_lt_of_cell? w _ h0)).trans h0
      replace h1 := (hb.cell (World.block_lt_of_cell? w _ h1)).trans h1
      replace h2 := (hb.cell (World.block_lt_of_cell? w _ h2)).trans h2
      have hx := List.getElem?_eq_getElem hlt
      have hrd : rd_T28 l (k : Int) = l[k] := by unfold rd_T28; rw [Int.toNat_natCast, List.getD_eq_getElem?_getD, hx]; rfl
      rw [hrd] at h0 h1 h2
      have hsx := hs _ (List.getElem_mem hlt)
      have HX := Lib.hid hx
      clear hx hrd
      generalize l[k] = x at h0 h1 h2 hsx HX
      go_wp2_with fail
      refine (Tryd.strings_CutPrefix _ _ _).mono ?_; rintro e wa ⟨rfl, rfl⟩
      go_wp2_with fail
      have hl1 : (restN x).length ≤ 140737488355328 := Nat.le_trans (trimPrefix_le _ _) (by rw [show x.f2.data.toList.length = x.f2.size from Array.length_toList]; exact hsx)
      have hl2 : (pageN x).length ≤ 140737488355328 := Nat.le_trans (cutB_le _ _) hl1
      refine (cut_one (bar (restN x)) 32 _ (by rw [bar_size]; omega)).mono ?_; rintro e wb ⟨rfl, hb2⟩
      have b2 := ((hb.alloc hb.size (.cells #[.int .i64 x.f0, .int .i64 x.f1, .string x.f2] 28))).trans (hb2.mono (by have := hb.size; simp; omega))
      have hkb : wb.cell? ⟨wr.heap.size, 1, none⟩ = some (.int .i64 x.f1) := (hb2.cell (p := ⟨wr.heap.size, 1, none⟩) (by simp)).trans (by
        have e := World.alloc_heap_new wr (.cells #[.int .i64 x.f0, .int .i64 x.f1, .string x.f2] 28)
        simp only [World.cell?, e]; rfl)
      have ownb := pw_own_below (hown.alloc _) hb2
      go_wp2_with fail
      refine (atoi_any (bar (pageN x)) _ (by rw [bar_size]; exact hl2) (hG.under b2)).mono ?_; rintro e wc ⟨ev, rfl, hev1, hev2, hb3⟩
      have b3 := b2.trans (hb3.mono b2.size)
      have hkc : wc.cell? ⟨wr.heap.size, 1, none⟩ = some (.int .i64 x.f1) := (hb3.cell (World.block_lt_of_cell? _ _ hkb)).trans hkb
      have ownc := pw_own_below ownb hb3
      have hrange := atoiN_range (pageN x)
      have hG3 := hG.under b3
      have hyes : isNote x = true → notesOf (l.take (k + 1)) = notesOf (l.take k) ++ [entryN x] := notesOf_yes l k x HX.out
      have hno : isNote x = false → notesOf (l.take (k + 1)) = notesOf (l.take k) := notesOf_no l k x HX.out
      have hN : isNote x = (decide (x.f1 = 9) && (Lib.hasPrefix x.f2.data.toList preI && ((cutB (restN x) 32).2.2 && (atoiB (pageN x) && (decide (Lib.itoa (atoiN (pageN x)) = pageN x) && (decide (0 ≤ atoiN (pageN x)) && decide (atoiN (pageN x) ≤ 1000000))))))) := rfl
      have hE : entryN x = (bar (cutB (restN x) 32).2.1, atoiN (pageN x)) := rfl
      have hp1 : (cutB (bar (restN x)).data.toList 32).1 = pageN x := rfl
      have hp2 : cutB (bar (restN x)).data.toList 32 = cutB (restN x) 32 := rfl
      have hp3 : (bar (pageN x)).data.toList = pageN x := rfl
      have hp4 : Lib.hasPrefix x.f2.data.toList (ByteArray.mk #[105, 110, 100, 101, 120, 32]).data.toList = Lib.hasPrefix x.f2.data.toList preI := rfl
      rw [hp3] at hev1 hev2
      rw [hp2, hp3, hp4, show (cutB (restN x) 32).1 = pageN x from rfl]
      have HY := Lib.hid hyes
      have HO := Lib.hid hno
      have HE := Lib.hid hE
      have HN := Lib.hid hN
      clear hyes hno hN hE hp1 hp2 hp3 hp4 hb2 hb3 b2 ownb hkb h0 h1 h2 hown HX hr hs
      generalize Lib.hasPrefix x.f2.data.toList preI = hp at HN ⊢
      generalize bar (cutB (restN x) 32).2.1 = tx at HE ⊢
      generalize (cutB (restN x) 32).2.2 = two at HN ⊢
      generalize atoiB (pageN x) = ok at HN hev1 hev2
      generalize atoiN (pageN x) = n at HN HE hrange ⊢
      have hz3 := b3.size
      have hitoa := itoa_any n wc hrange.1 hrange.2 hG3
      by_cases c1 : x.f1 = 9
      · have c1b : (x.f1 == 9) = true := beq_iff_eq.2 c1
        cases hp with
        | false =>
          have HF := Lib.hid (HO.out (by rw [HN.out]; simp))
          clear HO HY HN HE hitoa
          go_wp2_with fail
          go_roundw
          case rel => exact ⟨k + 1, by omega, by go_num, by rw [HF.out]; exact ownc, b3⟩
          case measure => simp [intOf]; omega
        | true =>
          cases two with
          | false =>
            have HF := Lib.hid (HO.out (by rw [HN.out]; simp))
            clear HO HY HN HE hitoa
            go_wp2_with fail
            go_roundw
            case rel => exact ⟨k + 1, by omega, by go_num, by rw [HF.out]; exact ownc, b3⟩
            case measure => simp [intOf]; omega
          | true =>
            cases ok with
            | false =>
              obtain ⟨te, pe, rfl⟩ := hev2 rfl
              have HF := Lib.hid (HO.out (by rw [HN.out]; simp))
              clear HO HY HN HE hitoa
              go_wp2_with fail
              go_roundw
              case rel => exact ⟨k + 1, by omega, by go_num, by rw [HF.out]; exact ownc, b3⟩
              case measure => simp [intOf]; omega
            | true =>
              obtain rfl := hev1 rfl
              by_cases c5 : Lib.itoa n = pageN x
              · have c5b : ((bar (Lib.itoa n)).toList == (bar (pageN x)).toList) = true := by rw [bar_toList, bar_toList]; exact beq_iff_eq.2 c5
                by_cases c6 : 0 ≤ n
                · by_cases c7 : n ≤ 1000000
                  · have HF := Lib.hid (HY.out (by rw [HN.out]; simp [c1, c5, c6, c7]))
                    have hnl := notesOf_le l k
                    rw [HE.out] at HF
                    clear HO HY HN HE c1 c5
                    go_wp2_with fail
                    refine hitoa.mono ?_; rintro e wd ⟨rfl, hb4⟩
                    have b4 := b3.trans (hb4.mono hz3)
                    have ownd := pw_own_below ownc hb4
                    have hz4 := b4.size
                    clear hitoa hb4 ownc b3
                    go_wp2_with (at_builtin; refine wpList_append_own _ rfl _ _ 29 rfl w.heap.size 34 i0 (.agg #[.string ⟨#[]⟩, .int .i64 0]) 2 24 Tryd.underlying29 hi hz0 hz1 hz2 rfl (by decide) _ _ _ rfl (ownd.alloc _) ⟨wd.heap.size, 0, none⟩ 1 1 [.string tx, .int .i64 n] rfl rfl (World.news_of_block (cs := #[.string tx, .int .i64 n]) (t := 34) (fr := (0, 0)) (heap_alloc_new wd _)) (by simp [Value.oneCell']) (by unfold maxLen; omega) (by omega) (by simp; omega) ?_; intro v' w5 hown' hgrow _)
                    go_roundw
                    case rel => exact ⟨k + 1, by omega, by go_num, by rw [HF.out, List.length_append, cellsE_snoc]; exact hown', (b4.alloc hz4 _).grown hgrow (by simp; omega) (fun y hy => own_base ownd y hy)⟩
                    case measure => simp [intOf]; omega
                  · have hd := decide_eq_false c7
                    have HD := Lib.hid hd
                    clear hd
                    have HF := Lib.hid (HO.out (by rw [HN.out]; simp [HD.out]))
                    clear HO HY HN HE
                    go_wp2_with fail
                    refine hitoa.mono ?_; rintro e wd ⟨rfl, hb4⟩
                    have b4 := b3.trans (hb4.mono hz3)
                    have ownd := pw_own_below ownc hb4
                    clear hitoa hb4
                    go_wp2_with fail
                    go_roundw
                    case rel => exact ⟨k + 1, by omega, by go_num, by rw [HF.out]; exact ownd, b4⟩
                    case measure => simp [intOf]; omega
                · have HD := Lib.hid (show decide (0 ≤ n) = false from decide_eq_false c6)
                  have HF := Lib.hid (HO.out (by rw [HN.out]; simp [HD.out]))
                  clear HO HY HN HE
                  go_wp2_with fail
                  refine hitoa.mono ?_; rintro e wd ⟨rfl, hb4⟩
                  have b4 := b3.trans (hb4.mono hz3)
                  have ownd := pw_own_below ownc hb4
                  clear hitoa hb4
                  go_wp2_with fail
                  go_roundw
                  case rel => exact ⟨k + 1, by omega, by go_num, by rw [HF.out]; exact ownd, b4⟩
                  case measure => simp [intOf]; omega
              · have c5b : ((bar (Lib.itoa n)).toList == (bar (pageN x)).toList) = false := by rw [bar_toList, bar_toList]; exact beq_eq_false_iff_ne.2 c5
                have HD := Lib.hid (show decide (Lib.itoa n = pageN x) = false from decide_eq_false c5)
                clear c5
                have HF := Lib.hid (HO.out (by rw [HN.out]; simp [HD.out]))
                clear HO HY HN HE
                go_wp2_with fail
                refine hitoa.mono ?_; rintro e wd ⟨rfl, hb4⟩
                have b4 := b3.trans (hb4.mono hz3)
                have ownd := pw_own_below ownc hb4
                clear hitoa hb4
                go_wp2_with fail
                go_roundw
                case rel => exact ⟨k + 1, by omega, by go_num, by rw [HF.out]; exact ownd, b4⟩
                case measure => simp [intOf]; omega
      · have c1b : (x.f1 == 9) = false := beq_eq_false_iff_ne.2 c1
        have HD := Lib.hid (show decide (x.f1 = 9) = false from decide_eq_false c1)
        clear c1
        have HF := Lib.hid (HO.out (by rw [HN.out]; simp [HD.out]))
        clear HO HY HN HE hitoa
        go_wp2_with fail
        go_roundw
        case rel => exact ⟨k + 1, by omega, by go_num, by rw [HF.out]; exact ownc, b3⟩
        case measure => simp [intOf]; omega
    · obtain rfl : k = l.length := by omega
      rw [List.take_length] at hown
      go_wp2_with fail
      go_ret
      exact ⟨_, rfl, hown, hb⟩
end Go.Proofs.YtanekljbehhjcaaDoor

namespace Go.Proofs.YtanekljbehhjcaaDoor.PX
open Go.RowKit Go.Proofs.YtanekljbehhjcaaDoorW.PrintWords Go.Proofs.YtanekljbehhjcaaDoorW.PrintLast Go.Proofs.YtanekljbehhjcaaDoorW.PrintMore
attribute [local go_sem] max2_int min2_int max_two min_two max_three min_three max_four min_four   -- for this text's walks alone
set_option linter.unusedVariables false
set_option linter.unusedSimpArgs false

/-! ### frisketref27_index: function 18 -/
def frisketref27_index.l0 : Nat → ByteArray → Int → Int → Option (Int)
  | 0, _, _, _ => none
  | k + 1, x0, x1, x5 => if x5 < (x0.size : Int) then (if 0 ≤ x5 then (if (bt x0 x5) = x1 then (some x5) else (frisketref27_index.l0 k x0 x1 (wrap64 (x5 + 1)))) else (none)) else (some (-1))
def frisketref27_index.f (k : Nat) (a0 : ByteArray) (a1 : Int) : Option (Int) := frisketref27_index.l0 k a0 a1 0
theorem frisketref27_index.mono_l : ∀ k, (∀ y0 y1 y2, LeO (frisketref27_index.l0 k y0 y1 y2) (frisketref27_index.l0 (k + 1) y0 y1 y2))
  | 0 => fun _ _ _ r h => by simp [frisketref27_index.l0] at h
  | k + 1 => by
    have ih0 := frisketref27_index.mono_l k
    · intro y0 y1 y2
      unfold frisketref27_index.l0
      repeat' first
      | (with_reducible exact ih0 _ _ _)
      | (with_reducible exact LeO.refl _)
      | (with_reducible exact LeO.none _)
      | (with_reducible refine LeO.ite ?_ ?_)
      | (with_reducible refine LeO.bind ?_ (fun _ => ?_))
      | exact ih0 _ _ _
      | exact LeO.none _
      | refine LeO.ite ?_ ?_
      | refine LeO.bind ?_ (fun _ => ?_)
theorem frisketref27_index.mono : ∀ a0 a1 k, LeO (frisketref27_index.f k a0 a1) (frisketref27_index.f (k + 1) a0 a1) := by
  intro a0 a1 k
  have ih0 := frisketref27_index.mono_l k
  unfold frisketref27_index.f
  repeat' first
      | (with_reducible exact ih0 _ _ _)
      | (with_reducible exact LeO.refl _)
      | (with_reducible exact LeO.none _)
      | (with_reducible refine LeO.ite ?_ ?_)
      | (with_reducible refine LeO.bind ?_ (fun _ => ?_))
      | exact ih0 _ _ _
      | exact LeO.none _
      | refine LeO.ite ?_ ?_
      | refine LeO.bind ?_ (fun _ => ?_)
set_option maxHeartbeats 8000000 in
set_option maxRecDepth 100000 in
theorem frisketref27_index.calls (k : Nat) (a0 : ByteArray) (a1 : Int) (r : Int) (w : World) (h : frisketref27_index.f k a0 a1 = some r) :
    Calls Tryd.prog 18 #[.string a0, .int .u8 a1] w fun e w' => e = .returned (.int .i64 r) ∧ Drawn0 w w' := by
  have H : (frisketref27_index.l0 k a0 a1 0) = some r := h
  clear h
  have H' := Aside0.mk H
  clear H
  go_enter Tryd.func18, Tryd.ntmps18
  go_wp2
  go_loopg [5] k (fun kq v5 w' => ∃ (x5_1 : Int), v5 = .int .i64 x5_1 ∧ Aside0 (frisketref27_index.l0 kq a0 a1 x5_1 = some r) ∧ Aside0 (kq ≤ k) ∧ Drawn0 w w')
  case atStart => exact ⟨(0), (by first | rfl | (simp; done) | (simp [*]; done)), H', ⟨Nat.le_refl _⟩, by repeat (first | exact Drawn0.refl _ | apply Drawn0.step)⟩
  case round =>
    clear H'
    try clear c1
    try clear p2
    obtain ⟨x5_1, rfl, HA, HK1, ⟨m1, rfl⟩⟩ := hrel
    cases gk with
    | zero => exact absurd HA.out (by simp [frisketref27_index.l0])
    | succ k1 =>
      have H := HA.out
      clear HA
      simp only [frisketref27_index.l0] at H
      by_cases c3 : x5_1 < (a0.size : Int)
      · rw [if_pos c3] at H
        have c3b0 : decide (x5_1 < (a0.size : Int)) = true := decide_eq_true c3
        clear c3
        by_cases c4 : 0 ≤ x5_1
        · rw [if_pos c4] at H
          have c4b0 : decide (0 ≤ x5_1) = true := decide_eq_true c4
          clear c4
          by_cases c6 : (bt a0 x5_1) = a1
          · rw [if_pos c6] at H
            have c6b0 : ((bt a0 x5_1) == a1) = true := beq_iff_eq.mpr c6
            have c6b1 : ((bt a0 x5_1) != a1) = false := bne_eq_false_iff_eq.mpr c6
            clear c6
            obtain rfl := Option.some.inj H
            have p5 : 0 ≤ (x5_1 : Int) := of_decide_eq_true (by first | (with_reducible assumption) | assumption)
            have q5 : x5_1 < (a0.size : Int) := of_decide_eq_true (by first | (with_reducible assumption) | assumption)
            have hx5 := bt_at a0 x5_1
            replace p5 := eq_true p5
            replace q5 := eq_true q5
            go_wp2
            go_ret
            exact ⟨by first | rfl | (simp; done) | (simp [*]; done), by repeat (first | exact Drawn0.refl _ | apply Drawn0.step)⟩
          · rw [if_neg c6] at H
            have c6b0 : ((bt a0 x5_1) == a1) = false := beq_eq_false_iff_ne.mpr c6
            have c6b1 : ((bt a0 x5_1) != a1) = true := bne_iff_ne.mpr c6
            have H' := Aside0.mk H
            clear H
            have p5 : 0 ≤ (x5_1 : Int) := of_decide_eq_true (by first | (with_reducible assumption) | assumption)
            have q5 : x5_1 < (a0.size : Int) := of_decide_eq_true (by first | (with_reducible assumption) | assumption)
            have hx5 := bt_at a0 x5_1
            replace p5 := eq_true p5
            replace q5 := eq_true q5
            go_wp2
            go_roundg k1
            case measure => have := HK1.out; omega
            case rel => exact ⟨(wrap64 (x5_1 + 1)), (by first | rfl | (simp; done) | (simp [*]; done)), H', ⟨by have := HK1.out; omega⟩, by repeat (first | exact Drawn0.refl _ | apply Drawn0.step)⟩
        · rw [if_neg c4] at H
          exact absurd H (by simp)
      · rw [if_neg c3] at H
        have c3b0 : decide (x5_1 < (a0.size : Int)) = false := decide_eq_false c3
        clear c3
        obtain rfl := Option.some.inj H
        go_wp2
        go_ret
        exact ⟨by first | rfl | (simp; done) | (simp [*]; done), by repeat (first | exact Drawn0.refl _ | apply Drawn0.step)⟩

end Go.Proofs.YtanekljbehhjcaaDoor.PX

namespace Go.Proofs.YtanekljbehhjcaaDoor.PX
open Go.RowKit Go.Proofs.YtanekljbehhjcaaDoorW.PrintWords Go.Proofs.YtanekljbehhjcaaDoorW.PrintLast Go.Proofs.YtanekljbehhjcaaDoorW.PrintMore
attribute [local go_sem] max2_int min2_int max_two min_two max_three min_three max_four min_four   -- for this text's walks alone
set_option linter.unusedVariables false
set_option linter.unusedSimpArgs false

/-! ### frisketref27_Notes: function 8 -/
mutual
def frisketref27_Notes.l0 : Nat → List (S28) → List (S35) → Int → Option ((List (S35)))
  | 0, _, _, _ => none
  | k + 1, x0, x3, x4 => if x4 < (x0.length : Int) then (if 0 ≤ x4 then (if ((rd_T28 x0 x4).f1) = 9 then (if (((rd_T28 x0 x4).f2).size : Int) < 7 then (frisketref27_Notes.j1 k x0 x3 x4 ((rd_T28 x0 x4).f2) true) else (if 0 ≤ 6 then (if 6 ≤ (((rd_T28 x0 x4).f2).size : Int) then (frisketref27_Notes.j1 k x0 x3 x4 ((rd_T28 x0 x4).f2) ((((rd_T28 x0 x4).f2).extract 0 6).toList != ([105, 110, 100, 101, 120, 32] : List UInt8))) else (none)) else (none))) else (frisketref27_Notes.j1 k x0 x3 x4 ((rd_T28 x0 x4).f2) true)) else (none)) else (some x3)
def frisketref27_Notes.j1 : Nat → List (S28) → List (S35) → Int → ByteArray → Bool → Option ((List (S35)))
  | 0, _, _, _, _, _ => none
  | k + 1, x0, x3, x4, x5, x36 => if x36 = true then (frisketref27_Notes.l0 k x0 x3 (wrap64 (x4 + 1))) else (if 6 ≤ (x5.size : Int) then ((frisketref27_index.f k (x5.extract 6 x5.size) 32).bind fun t109 => (if t109 < 1 then (frisketref27_Notes.l0 k x0 x3 (wrap64 (x4 + 1))) else (frisketref27_Notes.l1 k x0 x3 x4 x5 t109 0 true 6))) else (none))
def frisketref27_Notes.l1 : Nat → List (S28) → List (S35) → Int → ByteArray → Int → Int → Bool → Int → Option ((List (S35)))
  | 0, _, _, _, _, _, _, _, _ => none
  | k + 1, x0, x3, x4, x5, x6, x7, x8, x9 => if x9 < (wrap64 (6 + x6)) then (if x8 = true then (if 0 ≤ x9 then (if x9 < (x5.size : Int) then (if (bt x5 x9) ≥ 48 then (frisketref27_Notes.l1 k x0 x3 x4 x5 x6 (mn (wrap64 ((wrap64 (x7 * 10)) + (((bt x5 x9) - 48) % 256))) 1000000000) (decide ((bt x5 x9) ≤ 57)) (wrap64 (x9 + 1))) else (frisketref27_Notes.l1 k x0 x3 x4 x5 x6 (mn (wrap64 ((wrap64 (x7 * 10)) + (((bt x5 x9) - 48) % 256))) 1000000000) false (wrap64 (x9 + 1)))) else (none)) else (none)) else (if 0 ≤ x9 then (if x9 < (x5.size : Int) then (frisketref27_Notes.l1 k x0 x3 x4 x5 x6 (mn (wrap64 ((wrap64 (x7 * 10)) + (((bt x5 x9) - 48) % 256))) 1000000000) false (wrap64 (x9 + 1))) else (none)) else (none))) else (if x8 = true then (if x7 ≤ 1000000 then ((frisketref01_Digits.f k x7).bind fun t110 => (if 6 ≤ (wrap64 (6 + x6)) then (if (wrap64 (6 + x6)) ≤ (x5.size : Int) then (if t110.toList = (x5.extract 6 ((wrap64 (6 + x6)) : Int).toNat).toList then (if 0 ≤ (wrap64 ((wrap64 (6 + x6)) + 1)) then (if (wrap64 ((wrap64 (6 + x6)) + 1)) ≤ (x5.size : Int) then (if x3.length < 5864062014805 then (frisketref27_Notes.l0 k x0 (x3 ++ [(⟨x5.extract ((wrap64 ((wrap64 (6 + x6)) + 1)) : Int).toNat x5.size, x7⟩ : S35)]) (wrap64 (x4 + 1))) else (none)) else (none)) else (none)) else (frisketref27_Notes.l0 k x0 x3 (wrap64 (x4 + 1)))) else (none)) else (none))) else (frisketref27_Notes.l0 k x0 x3 (wrap64 (x4 + 1)))) else (frisketref27_Notes.l0 k x0 x3 (wrap64 (x4 + 1))))
end
def frisketref27_Notes.f (k : Nat) (l0 : List (S28)) : Option ((List (S35))) := frisketref27_Notes.l0 k l0 ([] : List (S35)) 0
theorem frisketref27_Notes.mono_l : ∀ k, (∀ y0 y1 y2, LeO (frisketref27_Notes.l0 k y0 y1 y2) (frisketref27_Notes.l0 (k + 1) y0 y1 y2)) ∧ (∀ y0 y1 y2 y3 y4, LeO (frisketref27_Notes.j1 k y0 y1 y2 y3 y4) (frisketref27_Notes.j1 (k + 1) y0 y1 y2 y3 y4)) ∧ (∀ y0 y1 y2 y3 y4 y5 y6 y7, LeO (frisketref27_Notes.l1 k y0 y1 y2 y3 y4 y5 y6 y7) (frisketref27_Notes.l1 (k + 1) y0 y1 y2 y3 y4 y5 y6 y7))
  | 0 => ⟨fun _ _ _ r h => by simp [frisketref27_Notes.l0] at h, fun _ _ _ _ _ r h => by simp [frisketref27_Notes.j1] at h, fun _ _ _ _ _ _ _ _ r h => by simp [frisketref27_Notes.l1] at h⟩
  | k + 1 => by
    obtain ⟨ih0, ih1, ih2⟩ := frisketref27_Notes.mono_l k
    refine ⟨?_, ?_, ?_⟩
    · intro y0 y1 y2
      unfold frisketref27_Notes.l0
      repeat' first
      | (with_reducible exact ih0 _ _ _)
      | (with_reducible exact ih1 _ _ _ _ _)
      | (with_reducible exact ih2 _ _ _ _ _ _ _ _)
      | (with_reducible exact frisketref01_Digits.mono _ _)
      | (with_reducible exact frisketref27_index.mono _ _ _)
      | (with_reducible exact LeO.refl _)
      | (with_reducible exact LeO.none _)
      | (with_reducible refine LeO.ite ?_ ?_)
      | (with_reducible refine LeO.bind ?_ (fun _ => ?_))
      | exact ih0 _ _ _
      | exact ih1 _ _ _ _ _
      | exact ih2 _ _ _ _ _ _ _ _
      | exact frisketref01_Digits.mono _ _
      | exact frisketref27_index.mono _ _ _
      | exact LeO.none _
      | refine LeO.ite ?_ ?_
      | refine LeO.bind ?_ (fun _ => ?_)
    · intro y0 y1 y2 y3 y4
      unfold frisketref27_Notes.j1
      repeat' first
      | (with_reducible exact ih0 _ _ _)
      | (with_reducible exact ih1 _ _ _ _ _)
      | (with_reducible exact ih2 _ _ _ _ _ _ _ _)
      | (with_reducible exact frisketref01_Digits.mono _ _)
      | (with_reducible exact frisketref27_index.mono _ _ _)
      | (with_reducible exact LeO.refl _)
      | (with_reducible exact LeO.none _)
      | (with_reducible refine LeO.ite ?_ ?_)
      | (with_reducible refine LeO.bind ?_ (fun _ => ?_))
      | exact ih0 _ _ _
      | exact ih1 _ _ _ _ _
      | exact ih2 _ _ _ _ _ _ _ _
      | exact frisketref01_Digits.mono _ _
      | exact frisketref27_index.mono _ _ _
      | exact LeO.none _
      | refine LeO.ite ?_ ?_
      | refine LeO.bind ?_ (fun _ => ?_)
    · intro y0 y1 y2 y3 y4 y5 y6 y7
      unfold frisketref27_Notes.l1
      repeat' first
      | (with_reducible exact ih0 _ _ _)
      | (with_reducible exact ih1 _ _ _ _ _)
      | (with_reducible exact ih2 _ _ _ _ _ _ _ _)
      | (with_reducible exact frisketref01_Digits.mono _ _)
      | (with_reducible exact frisketref27_index.mono _ _ _)
      | (with_reducible exact LeO.refl _)
      | (with_reducible exact LeO.none _)
      | (with_reducible refine LeO.ite ?_ ?_)
      | (with_reducible refine LeO.bind ?_ (fun _ => ?_))
      | exact ih0 _ _ _
      | exact ih1 _ _ _ _ _
      | exact ih2 _ _ _ _ _ _ _ _
      | exact frisketref01_Digits.mono _ _
      | exact frisketref27_index.mono _ _ _
      | exact LeO.none _
      | refine LeO.ite ?_ ?_
      | refine LeO.bind ?_ (fun _ => ?_)
theorem frisketref27_Notes.mono : ∀ a0 k, LeO (frisketref27_Notes.f k a0) (frisketref27_Notes.f (k + 1) a0) := by
  intro a0 k
  obtain ⟨ih0, ih1, ih2⟩ := frisketref27_Notes.mono_l k
  unfold frisketref27_Notes.f
  repeat' first
      | (with_reducible exact ih0 _ _ _)
      | (with_reducible exact ih1 _ _ _ _ _)
      | (with_reducible exact ih2 _ _ _ _ _ _ _ _)
      | (with_reducible exact frisketref01_Digits.mono _ _)
      | (with_reducible exact frisketref27_index.mono _ _ _)
      | (with_reducible exact LeO.refl _)
      | (with_reducible exact LeO.none _)
      | (with_reducible refine LeO.ite ?_ ?_)
      | (with_reducible refine LeO.bind ?_ (fun _ => ?_))
      | exact ih0 _ _ _
      | exact ih1 _ _ _ _ _
      | exact ih2 _ _ _ _ _ _ _ _
      | exact frisketref01_Digits.mono _ _
      | exact frisketref27_index.mono _ _ _
      | exact LeO.none _
      | refine LeO.ite ?_ ?_
      | refine LeO.bind ?_ (fun _ => ?_)
def frisketref27_Notes.T15 : Bool × List (List Nat × List Nat) := (true, [([], []), ([0], [0]), ([1], [1]), ([2, 1], [1, 2]), ([1, 3], [1, 3]), ([4, 1], [4]), ([5], [5]), ([6, 5, 5], [5, 6]), ([5], [5]), ([5], [5]), ([9, 5], [5, 9]), ([8, 10, 5], [5, 8, 10]), ([7, 11, 5], [5, 7, 11]), ([5, 12], [5, 12])])
def frisketref27_Notes.B15 : List Nat := [0, 1, 3, 7, 15, 31, 63, 127, 63, 63, 575, 1855, 4095, 8191]
theorem frisketref27_Notes.tab15 : rtab .any (opsOf Tryd.f8 15) = frisketref27_Notes.T15 := by kernel_rfl
theorem frisketref27_Notes.bits15 : waitsOk frisketref27_Notes.T15.2 frisketref27_Notes.B15 = true := by kernel_rfl
set_option maxHeartbeats 8000000 in
set_option maxRecDepth 100000 in
theorem frisketref27_Notes.calls (k : Nat) (A0 : Option Addr) (c0 : Nat) (l0 : List (S28)) (r : List (S35)) (w : World) (hr0 : Kd.C k28 w A0 l0.length l0) (hc0 : l0.length ≤ c0) (h : frisketref27_Notes.f k l0 = some r) :
    Calls Tryd.prog 8 #[.slice A0 l0.length c0] w fun e w' => ∃ v0_ : Value, e = .returned (v0_) ∧ Kd.R k35 35 w' w.heap.size (fun _ => True) v0_ r ∧ Below w.heap.size w w' := by
  have hu35 := Tryd.underlying35
  have HR0 := Aside0.mk hr0
  have HC0 := Aside0.mk hc0
  clear hr0 hc0
  have HB := Aside0.mk (Below.refl w.heap.size w)
  have H : (frisketref27_Notes.l0 k l0 ([] : List (S35)) 0) = some r := h
  clear h
  have H' := Aside0.mk H
  clear H
  go_enter Tryd.func8, Tryd.ntmps8
  go_wp2
  go_loopg [3, 4] k (fun kq v3 v4 w' => ∃ (x3_1 : List (S35)) (x4_1 : Int), v4 = .int .i64 x4_1 ∧ Aside0 (frisketref27_Notes.l0 kq l0 x3_1 x4_1 = some r) ∧ Aside0 (kq ≤ k) ∧ Aside0 (Kd.R k35 35 w' w.heap.size (fun _ => True) v3 x3_1) ∧ Aside0 (Below w.heap.size w w'))
  case atStart => exact ⟨(([] : List (S35))), (0), (by first | rfl | (simp; done) | (simp [*]; done)), H', ⟨Nat.le_refl _⟩, ⟨by first | exact Kd.R_nil _ _ _ _ _ | exact Kd.N_nil _ _ _ _ _ | exact Kd.V_nil _ _ _ _ _ | exact Kd.Q_nil _ _ _ _ _ | exact Kd.S_nil _ _ _ _ _⟩, ⟨by repeat (first | (with_reducible first | exact HB.out | apply below_alloc | apply pw_below_drewN | apply below_drew1) | exact HB.out)⟩⟩
  case round =>
    clear H'
    obtain ⟨x3_1, x4_1, rfl, HA, HK1, HO_3, HB⟩ := hrel
    cases gk with
    | zero => exact absurd HA.out (by simp [frisketref27_Notes.l0])
    | succ k1 =>
      have H := HA.out
      clear HA
      simp only [frisketref27_Notes.l0] at H
      by_cases c2 : x4_1 < (l0.length : Int)
      · rw [if_pos c2] at H
        have c2b0 : decide (x4_1 < (l0.length : Int)) = true := decide_eq_true c2
        clear c2
        by_cases c3 : 0 ≤ x4_1
        · rw [if_pos c3] at H
          have c3b0 : decide (0 ≤ x4_1) = true := decide_eq_true c3
          clear c3
          have HC4 := Aside0.mk H
          clear H
          have p107 : 0 ≤ (x4_1 : Int) := of_decide_eq_true (by first | (with_reducible assumption) | assumption)
          have q107 : x4_1 < (l0.length : Int) := of_decide_eq_true (by first | (with_reducible assumption) | assumption)
          obtain ⟨ad107, e107, hx107_0, hx107_1, hx107_2⟩ := at_T28 HR0.out x4_1 p107 q107
          cases e107
          replace hx107_0 := (HB.out.cell (World.block_lt_of_cell? w _ hx107_0)).trans hx107_0
          replace hx107_1 := (HB.out.cell (World.block_lt_of_cell? w _ hx107_1)).trans hx107_1
          replace hx107_2 := (HB.out.cell (World.block_lt_of_cell? w _ hx107_2)).trans hx107_2
          replace p107 := eq_true p107
          replace q107 := eq_true q107
          go_upto_region 6 with (fail)
          go_cut [36] (fun v36 wc => ∃ (kq : Nat) (x36_3 : Bool), v36 = .bool x36_3 ∧ Aside0 (frisketref27_Notes.j1 kq l0 x3_1 x4_1 ((rd_T28 l0 x4_1).f2) x36_3 = some r) ∧ Aside0 (kq ≤ k1) ∧ Aside0 (Kd.R k35 35 wc w.heap.size (fun _ => True) u3 x3_1) ∧ Aside0 (Below w.heap.size w wc))
          case first =>
            have H := HC4.out
            clear HC4
            by_cases c5 : ((rd_T28 l0 x4_1).f1) = 9
            · rw [if_pos c5] at H
              have c5b0 : (((rd_T28 l0 x4_1).f1) == 9) = true := beq_iff_eq.mpr c5
              have c5b1 : (((rd_T28 l0 x4_1).f1) != 9) = false := bne_eq_false_iff_eq.mpr c5
              clear c5
              (first | rw [c5b0] | (simp only [i64_w, i32_w]; rw [c5b0]) | skip)
              by_cases c6 : (((rd_T28 l0 x4_1).f2).size : Int) < 7
              · rw [if_pos c6] at H
                have c6b0 : decide ((((rd_T28 l0 x4_1).f2).size : Int) < 7) = true := decide_eq_true c6
                have c6b1 : decide (((rd_T28 l0 x4_1).f2).size < 7) = true := decide_eq_true (by omega)
                clear c6
                have H' := Aside0.mk H
                clear H
                have p108 : 0 ≤ (x4_1 : Int) := of_decide_eq_true (by first | (with_reducible assumption) | assumption)
                have q108 : x4_1 < (l0.length : Int) := of_decide_eq_true (by first | (with_reducible assumption) | assumption)
                obtain ⟨ad108, e108, hx108_0, hx108_1, hx108_2⟩ := at_T28 HR0.out x4_1 p108 q108
                obtain rfl : ad107 = ad108 := (by injection e108)
                replace hx108_0 := (HB.out.cell (World.block_lt_of_cell? w _ hx108_0)).trans hx108_0
                replace hx108_1 := (HB.out.cell (World.block_lt_of_cell? w _ hx108_1)).trans hx108_1
                replace hx108_2 := (HB.out.cell (World.block_lt_of_cell? w _ hx108_2)).trans hx108_2
                replace p108 := eq_true p108
                replace q108 := eq_true q108
                go_wp2
                go_meet
                case rel => exact ⟨_, (true), (by first | rfl | (simp; done) | (simp [*]; done)), H', ⟨by have := HK1.out; first | omega | exact Nat.le_refl _⟩, ⟨by (with_reducible repeat (first | apply Kd.R_alloc | apply Kd.R_drewN | apply Kd.R_drew)); exact HO_3.out⟩, ⟨by repeat (first | (with_reducible first | exact HB.out | apply below_alloc | apply pw_below_drewN | apply below_drew1) | exact HB.out)⟩⟩
              · rw [if_neg c6] at H
                have c6b0 : decide ((((rd_T28 l0 x4_1).f2).size : Int) < 7) = false := decide_eq_false c6
                have c6b1 : decide (((rd_T28 l0 x4_1).f2).size < 7) = false := decide_eq_false (by omega)
                clear c6
                by_cases c7 : 0 ≤ 6
                · rw [if_pos c7] at H
                  have c7b0 := eq_true c7
                  have c7b1 : decide (0 ≤ 6) = true := decide_eq_true c7
                  clear c7
                  by_cases c8 : 6 ≤ (((rd_T28 l0 x4_1).f2).size : Int)
                  · rw [if_pos c8] at H
                    have c8b0 := eq_true c8
                    have c8b1 : decide (6 ≤ (((rd_T28 l0 x4_1).f2).size : Int)) = true := decide_eq_true c8
                    clear c8
                    have H' := Aside0.mk H
                    clear H
                    have p108 : 0 ≤ (x4_1 : Int) := of_decide_eq_true (by first | (with_reducible assumption) | assumption)
                    have q108 : x4_1 < (l0.length : Int) := of_decide_eq_true (by first | (with_reducible assumption) | assumption)
                    obtain ⟨ad108, e108, hx108_0, hx108_1, hx108_2⟩ := at_T28 HR0.out x4_1 p108 q108
                    obtain rfl : ad107 = ad108 := (by injection e108)
                    replace hx108_0 := (HB.out.cell (World.block_lt_of_cell? w _ hx108_0)).trans hx108_0
                    replace hx108_1 := (HB.out.cell (World.block_lt_of_cell? w _ hx108_1)).trans hx108_1
                    replace hx108_2 := (HB.out.cell (World.block_lt_of_cell? w _ hx108_2)).trans hx108_2
                    replace p108 := eq_true p108
                    replace q108 := eq_true q108
                    go_wp2
                    go_meet
                    case rel => exact ⟨_, (((((rd_T28 l0 x4_1).f2).extract 0 6).toList != ([105, 110, 100, 101, 120, 32] : List UInt8))), (by first | rfl | (simp; done) | (simp [*]; done)), H', ⟨by have := HK1.out; first | omega | exact Nat.le_refl _⟩, ⟨by (with_reducible repeat (first | apply Kd.R_alloc | apply Kd.R_drewN | apply Kd.R_drew)); exact HO_3.out⟩, ⟨by repeat (first | (with_reducible first | exact HB.out | apply below_alloc | apply pw_below_drewN | apply below_drew1) | exact HB.out)⟩⟩
                  · rw [if_neg c8] at H
                    exact absurd H (by simp)
                · rw [if_neg c7] at H
                  exact absurd H (by simp)
            · rw [if_neg c5] at H
              have c5b0 : (((rd_T28 l0 x4_1).f1) == 9) = false := beq_eq_false_iff_ne.mpr c5
              have c5b1 : (((rd_T28 l0 x4_1).f1) != 9) = true := bne_iff_ne.mpr c5
              (first | rw [c5b0] | (simp only [i64_w, i32_w]; rw [c5b0]) | skip)
              have H' := Aside0.mk H
              clear H
              have p108 : 0 ≤ (x4_1 : Int) := of_decide_eq_true (by first | (with_reducible assumption) | assumption)
              have q108 : x4_1 < (l0.length : Int) := of_decide_eq_true (by first | (with_reducible assumption) | assumption)
              obtain ⟨ad108, e108, hx108_0, hx108_1, hx108_2⟩ := at_T28 HR0.out x4_1 p108 q108
              obtain rfl : ad107 = ad108 := (by injection e108)
              replace hx108_0 := (HB.out.cell (World.block_lt_of_cell? w _ hx108_0)).trans hx108_0
              replace hx108_1 := (HB.out.cell (World.block_lt_of_cell? w _ hx108_1)).trans hx108_1
              replace hx108_2 := (HB.out.cell (World.block_lt_of_cell? w _ hx108_2)).trans hx108_2
              replace p108 := eq_true p108
              replace q108 := eq_true q108
              go_wp2
              go_meet
              case rel => exact ⟨_, (true), (by first | rfl | (simp; done) | (simp [*]; done)), H', ⟨by have := HK1.out; first | omega | exact Nat.le_refl _⟩, ⟨by (with_reducible repeat (first | apply Kd.R_alloc | apply Kd.R_drewN | apply Kd.R_drew)); exact HO_3.out⟩, ⟨by repeat (first | (with_reducible first | exact HB.out | apply below_alloc | apply pw_below_drewN | apply below_drew1) | exact HB.out)⟩⟩
          case rest =>
            clear HC4
            try clear p1
            try clear q1
            try clear hx1
            try clear c2
            try clear c2b0
            try clear p2
            try clear c3
            try clear c3b0
            try clear c5
            try clear c5b0
            try clear c5b1
            try clear c6
            try clear c6b0
            try clear c6b1
            try clear c7
            try clear c7b0
            try clear c7b1
            try clear c8
            try clear c8b0
            try clear c8b1
            try clear hx107_0
            try clear hx107_1
            try clear hx107_2
            try clear hx108_0
            try clear hx108_1
            try clear hx108_2
            try clear p107
            try clear p108
            try clear q107
            try clear q108
            obtain ⟨kq, x36_3, rfl, HA, HJ3, HO_3, HB⟩ := hcut
            cases kq with
            | zero => exact absurd HA.out (by simp [frisketref27_Notes.j1])
            | succ kj3 =>
              have H := HA.out
              clear HA
              simp only [frisketref27_Notes.j1] at H
              by_cases c9 : x36_3 = true
              · subst c9
                have H1 : (frisketref27_Notes.l0 kj3 l0 x3_1 (wrap64 (x4_1 + 1))) = some r := by rw [if_pos rfl] at H; exact H
                clear H
                have H := H1
                clear H1
                have H' := Aside0.mk H
                clear H
                go_wp2
                go_roundg kj3
                case measure => have := HK1.out; have := HJ3.out; omega
                case rel => exact ⟨(x3_1), (wrap64 (x4_1 + 1)), (by first | rfl | (simp; done) | (simp [*]; done)), H', ⟨by have := HK1.out; have := HJ3.out; omega⟩, ⟨by (with_reducible repeat (first | apply Kd.R_alloc | apply Kd.R_drewN | apply Kd.R_drew)); exact HO_3.out⟩, ⟨by repeat (first | (with_reducible first | exact HB.out | apply below_alloc | apply pw_below_drewN | apply below_drew1) | exact HB.out)⟩⟩
              · replace c9 := Bool.eq_false_iff.mpr c9
                subst c9
                have H1 : (if 6 ≤ (((rd_T28 l0 x4_1).f2).size : Int) then ((frisketref27_index.f kj3 (((rd_T28 l0 x4_1).f2).extract 6 ((rd_T28 l0 x4_1).f2).size) 32).bind fun t109 => (if t109 < 1 then (frisketref27_Notes.l0 kj3 l0 x3_1 (wrap64 (x4_1 + 1))) else (frisketref27_Notes.l1 kj3 l0 x3_1 x4_1 ((rd_T28 l0 x4_1).f2) t109 0 true 6))) else (none)) = some r := by rw [if_neg (show ¬ (false = true) by decide)] at H; exact H
                clear H
                have H := H1
                clear H1
                by_cases c10 : 6 ≤ (((rd_T28 l0 x4_1).f2).size : Int)
                · rw [if_pos c10] at H
                  have c10b0 := eq_true c10
                  have c10b1 : decide (6 ≤ (((rd_T28 l0 x4_1).f2).size : Int)) = true := decide_eq_true c10
                  clear c10
                  replace H := Option.bind_eq_some_iff.mp H
                  obtain ⟨t109, A110, H⟩ := H
                  replace H : (if t109 < 1 then (frisketref27_Notes.l0 kj3 l0 x3_1 (wrap64 (x4_1 + 1))) else (frisketref27_Notes.l1 kj3 l0 x3_1 x4_1 ((rd_T28 l0 x4_1).f2) t109 0 true 6)) = some r := H
                  have A11 := Aside0.mk A110
                  clear A110
                  by_cases c12 : t109 < 1
                  · rw [if_pos c12] at H
                    have c12b0 : decide (t109 < 1) = true := decide_eq_true c12
                    clear c12
                    have H' := Aside0.mk H
                    clear H
                    go_wp2_with (first | ((with_reducible refine gate_callee (f := 18) rfl ?_); refine goesL_ (some 39) rfl rfl Tryd.func18 (by kernel_rfl) rfl #[.string (((rd_T28 l0 x4_1).f2).extract 6 ((rd_T28 l0 x4_1).f2).size), .int .u8 32] rfl (by (try simp only [List.map_toArray, List.map_cons, List.map_nil]); first | done | rfl | (simp only [List.length_drop, List.length_take]; rfl)) ?_; (with_reducible refine (frisketref27_index.calls kj3 (((rd_T28 l0 x4_1).f2).extract 6 ((rd_T28 l0 x4_1).f2).size) 32 t109 _ A11.out).mono ?_); rintro e w' ⟨rfl, ⟨nd, rfl⟩⟩; refine ⟨_, rfl, ?_⟩))
                    go_roundg kj3
                    case measure => have := HK1.out; have := HJ3.out; omega
                    case rel => exact ⟨(x3_1), (wrap64 (x4_1 + 1)), (by first | rfl | (simp; done) | (simp [*]; done)), H', ⟨by have := HK1.out; have := HJ3.out; omega⟩, ⟨by (with_reducible repeat (first | apply Kd.R_alloc | apply Kd.R_drewN | apply Kd.R_drew)); exact HO_3.out⟩, ⟨by repeat (first | (with_reducible first | exact HB.out | apply below_alloc | apply pw_below_drewN | apply below_drew1) | exact HB.out)⟩⟩
                  · rw [if_neg c12] at H
                    have c12b0 : decide (t109 < 1) = false := decide_eq_false c12
                    clear c12
                    have H' := Aside0.mk H
                    clear H
                    go_wp2_with (first | ((with_reducible refine gate_callee (f := 18) rfl ?_); refine goesL_ (some 39) rfl rfl Tryd.func18 (by kernel_rfl) rfl #[.string (((rd_T28 l0 x4_1).f2).extract 6 ((rd_T28 l0 x4_1).f2).size), .int .u8 32] rfl (by (try simp only [List.map_toArray, List.map_cons, List.map_nil]); first | done | rfl | (simp only [List.length_drop, List.length_take]; rfl)) ?_; (with_reducible refine (frisketref27_index.calls kj3 (((rd_T28 l0 x4_1).f2).extract 6 ((rd_T28 l0 x4_1).f2).size) 32 t109 _ A11.out).mono ?_); rintro e w' ⟨rfl, ⟨nd, rfl⟩⟩; refine ⟨_, rfl, ?_⟩))
                    go_loopg [7, 8, 9] kj3 (fun kq v7 v8 v9 w' => ∃ (x7_3 : Int) (x8_3 : Bool) (x9_3 : Int), v7 = .int .i64 x7_3 ∧ v8 = .bool x8_3 ∧ v9 = .int .i64 x9_3 ∧ Aside0 (frisketref27_Notes.l1 kq l0 x3_1 x4_1 ((rd_T28 l0 x4_1).f2) t109 x7_3 x8_3 x9_3 = some r) ∧ Aside0 (kq ≤ kj3) ∧ Aside0 (Kd.R k35 35 w' w.heap.size (fun _ => True) u3 x3_1) ∧ Aside0 (Below w.heap.size w w'))
                    case atStart => exact ⟨(0), (true), (6), (by first | rfl | (simp; done) | (simp [*]; done)), (by first | rfl | (simp; done) | (simp [*]; done)), (by first | rfl | (simp; done) | (simp [*]; done)), H', ⟨Nat.le_refl _⟩, ⟨by (with_reducible repeat (first | apply Kd.R_alloc | apply Kd.R_drewN | apply Kd.R_drew)); exact HO_3.out⟩, ⟨by repeat (first | (with_reducible first | exact HB.out | apply below_alloc | apply pw_below_drewN | apply below_drew1) | exact HB.out)⟩⟩
                    case round =>
                      clear H'
                      try clear c1
                      try clear p1
                      try clear q1
                      try clear hx1
                      try clear c2
                      try clear c2b0
                      try clear p2
                      try clear c3
                      try clear c3b0
                      try clear c5
                      try clear c5b0
                      try clear c5b1
                      try clear c6
                      try clear c6b0
                      try clear c6b1
                      try clear p6
                      try clear c7
                      try clear c7b0
                      try clear c7b1
                      try clear c8
                      try clear c8b0
                      try clear c8b1
                      try clear c9
                      try clear c10
                      try clear c10b0
                      try clear c10b1
                      try clear p10
                      try clear q10
                      try clear hx10
                      try clear c12
                      try clear c12b0
                      try clear hx107_0
                      try clear hx107_1
                      try clear hx107_2
                      try clear hx108_0
                      try clear hx108_1
                      try clear hx108_2
                      try clear p1
                      try clear p107
                      try clear p108
                      try clear p2
                      try clear q1
                      try clear q107
                      try clear q108
                      obtain ⟨x7_3, x8_3, x9_3, rfl, rfl, rfl, HA, HK3, HO_3, HB⟩ := hrel
                      cases gk with
                      | zero => exact absurd HA.out (by simp [frisketref27_Notes.l1])
                      | succ k3 =>
                        have H := HA.out
                        clear HA
                        simp only [frisketref27_Notes.l1] at H
                        by_cases c13 : x9_3 < (wrap64 (6 + t109))
                        · rw [if_pos c13] at H
                          have c13b0 : decide (x9_3 < (wrap64 (6 + t109))) = true := decide_eq_true c13
                          clear c13
                          by_cases c14 : x8_3 = true
                          · subst c14
                            have H1 : (if 0 ≤ x9_3 then (if x9_3 < (((rd_T28 l0 x4_1).f2).size : Int) then (if (bt ((rd_T28 l0 x4_1).f2) x9_3) ≥ 48 then (frisketref27_Notes.l1 k3 l0 x3_1 x4_1 ((rd_T28 l0 x4_1).f2) t109 (mn (wrap64 ((wrap64 (x7_3 * 10)) + (((bt ((rd_T28 l0 x4_1).f2) x9_3) - 48) % 256))) 1000000000) (decide ((bt ((rd_T28 l0 x4_1).f2) x9_3) ≤ 57)) (wrap64 (x9_3 + 1))) else (frisketref27_Notes.l1 k3 l0 x3_1 x4_1 ((rd_T28 l0 x4_1).f2) t109 (mn (wrap64 ((wrap64 (x7_3 * 10)) + (((bt ((rd_T28 l0 x4_1).f2) x9_3) - 48) % 256))) 1000000000) false (wrap64 (x9_3 + 1)))) else (none)) else (none)) = some r := by rw [if_pos rfl] at H; exact H
                            clear H
                            have H := H1
                            clear H1
                            by_cases c15 : 0 ≤ x9_3
                            · rw [if_pos c15] at H
                              have c15b0 : decide (0 ≤ x9_3) = true := decide_eq_true c15
                              clear c15
                              by_cases c16 : x9_3 < (((rd_T28 l0 x4_1).f2).size : Int)
                              · rw [if_pos c16] at H
                                have c16b0 : decide (x9_3 < (((rd_T28 l0 x4_1).f2).size : Int)) = true := decide_eq_true c16
                                clear c16
                                by_cases c18 : (bt ((rd_T28 l0 x4_1).f2) x9_3) ≥ 48
                                · rw [if_pos c18] at H
                                  have c18b0 : decide (48 ≤ (bt ((rd_T28 l0 x4_1).f2) x9_3)) = true := decide_eq_true c18
                                  clear c18
                                  obtain ⟨ji21, hji21⟩ : ∃ j_ : Int, (mn (wrap64 ((wrap64 (x7_3 * 10)) + (((bt ((rd_T28 l0 x4_1).f2) x9_3) - 48) % 256))) 1000000000) = j_ := ⟨_, rfl⟩
                                  replace H : (frisketref27_Notes.l1 k3 l0 x3_1 x4_1 ((rd_T28 l0 x4_1).f2) t109 ji21 (decide ((bt ((rd_T28 l0 x4_1).f2) x9_3) ≤ 57)) (wrap64 (x9_3 + 1))) = some r := by first | (rw [hji21] at H; exact H) | (simp only [hji21] at H ⊢; exact H)
                                  have hji21_ : (if 1000000000 < (wrap64 ((wrap64 (x7_3 * 10)) + (((bt ((rd_T28 l0 x4_1).f2) x9_3) - 48) % 256))) then 1000000000 else (wrap64 ((wrap64 (x7_3 * 10)) + (((bt ((rd_T28 l0 x4_1).f2) x9_3) - 48) % 256)))) = ji21 := hji21
                                  have H' := Aside0.mk H
                                  clear H
                                  have p17 : 0 ≤ (x9_3 : Int) := of_decide_eq_true (by first | (with_reducible assumption) | assumption)
                                  have q17 : x9_3 < (((rd_T28 l0 x4_1).f2).size : Int) := of_decide_eq_true (by first | (with_reducible assumption) | assumption)
                                  have hx17 := bt_at ((rd_T28 l0 x4_1).f2) x9_3
                                  replace p17 := eq_true p17
                                  replace q17 := eq_true q17
                                  have p19 : 0 ≤ (x9_3 : Int) := of_decide_eq_true (by first | (with_reducible assumption) | assumption)
                                  have q19 : x9_3 < (((rd_T28 l0 x4_1).f2).size : Int) := of_decide_eq_true (by first | (with_reducible assumption) | assumption)
                                  have hx19 := bt_at ((rd_T28 l0 x4_1).f2) x9_3
                                  replace p19 := eq_true p19
                                  replace q19 := eq_true q19
                                  have p20 : 0 ≤ (x9_3 : Int) := of_decide_eq_true (by first | (with_reducible assumption) | assumption)
                                  have q20 : x9_3 < (((rd_T28 l0 x4_1).f2).size : Int) := of_decide_eq_true (by first | (with_reducible assumption) | assumption)
                                  have hx20 := bt_at ((rd_T28 l0 x4_1).f2) x9_3
                                  replace p20 := eq_true p20
                                  replace q20 := eq_true q20
                                  go_wp2
                                  go_roundg k3
                                  case measure => have := HK1.out; have := HJ3.out; have := HK3.out; omega
                                  case rel => exact ⟨(ji21), (decide ((bt ((rd_T28 l0 x4_1).f2) x9_3) ≤ 57)), (wrap64 (x9_3 + 1)), (by first | rfl | (simp; done) | (simp only [← hji21] <;> (first | rfl | simp)) | (simp [*]; done)), (by first | rfl | (simp; done) | (simp [*]; done)), (by first | rfl | (simp; done) | (simp [*]; done)), H', ⟨by have := HK1.out; have := HJ3.out; have := HK3.out; omega⟩, ⟨by (with_reducible repeat (first | apply Kd.R_alloc | apply Kd.R_drewN | apply Kd.R_drew)); exact HO_3.out⟩, ⟨by repeat (first | (with_reducible first | exact HB.out | apply below_alloc | apply pw_below_drewN | apply below_drew1) | exact HB.out)⟩⟩
                                · rw [if_neg c18] at H
                                  have c18b0 : decide (48 ≤ (bt ((rd_T28 l0 x4_1).f2) x9_3)) = false := decide_eq_false c18
                                  clear c18
                                  obtain ⟨ji23, hji23⟩ : ∃ j_ : Int, (mn (wrap64 ((wrap64 (x7_3 * 10)) + (((bt ((rd_T28 l0 x4_1).f2) x9_3) - 48) % 256))) 1000000000) = j_ := ⟨_, rfl⟩
                                  replace H : (frisketref27_Notes.l1 k3 l0 x3_1 x4_1 ((rd_T28 l0 x4_1).f2) t109 ji23 false (wrap64 (x9_3 + 1))) = some r := by first | (rw [hji23] at H; exact H) | (simp only [hji23] at H ⊢; exact H)
                                  have hji23_ : (if 1000000000 < (wrap64 ((wrap64 (x7_3 * 10)) + (((bt ((rd_T28 l0 x4_1).f2) x9_3) - 48) % 256))) then 1000000000 else (wrap64 ((wrap64 (x7_3 * 10)) + (((bt ((rd_T28 l0 x4_1).f2) x9_3) - 48) % 256)))) = ji23 := hji23
                                  have H' := Aside0.mk H
                                  clear H
                                  have p17 : 0 ≤ (x9_3 : Int) := of_decide_eq_true (by first | (with_reducible assumption) | assumption)
                                  have q17 : x9_3 < (((rd_T28 l0 x4_1).f2).size : Int) := of_decide_eq_true (by first | (with_reducible assumption) | assumption)
                                  have hx17 := bt_at ((rd_T28 l0 x4_1).f2) x9_3
                                  replace p17 := eq_true p17
                                  replace q17 := eq_true q17
                                  have p22 : 0 ≤ (x9_3 : Int) := of_decide_eq_true (by first | (with_reducible assumption) | assumption)
                                  have q22 : x9_3 < (((rd_T28 l0 x4_1).f2).size : Int) := of_decide_eq_true (by first | (with_reducible assumption) | assumption)
                                  have hx22 := bt_at ((rd_T28 l0 x4_1).f2) x9_3
                                  replace p22 := eq_true p22
                                  replace q22 := eq_true q22
                                  go_wp2
                                  go_roundg k3
                                  case measure => have := HK1.out; have := HJ3.out; have := HK3.out; omega
                                  case rel => exact ⟨(ji23), (false), (wrap64 (x9_3 + 1)), (by first | rfl | (simp; done) | (simp only [← hji23] <;> (first | rfl | simp)) | (simp [*]; done)), (by first | rfl | (simp; done) | (simp [*]; done)), (by first | rfl | (simp; done) | (simp [*]; done)), H', ⟨by have := HK1.out; have := HJ3.out; have := HK3.out; omega⟩, ⟨by (with_reducible repeat (first | apply Kd.R_alloc | apply Kd.R_drewN | apply Kd.R_drew)); exact HO_3.out⟩, ⟨by repeat (first | (with_reducible first | exact HB.out | apply below_alloc | apply pw_below_drewN | apply below_drew1) | exact HB.out)⟩⟩
                              · rw [if_neg c16] at H
                                exact absurd H (by simp)
                            · rw [if_neg c15] at H
                              exact absurd H (by simp)
                          · replace c14 := Bool.eq_false_iff.mpr c14
                            subst c14
                            have H1 : (if 0 ≤ x9_3 then (if x9_3 < (((rd_T28 l0 x4_1).f2).size : Int) then (frisketref27_Notes.l1 k3 l0 x3_1 x4_1 ((rd_T28 l0 x4_1).f2) t109 (mn (wrap64 ((wrap64 (x7_3 * 10)) + (((bt ((rd_T28 l0 x4_1).f2) x9_3) - 48) % 256))) 1000000000) false (wrap64 (x9_3 + 1))) else (none)) else (none)) = some r := by rw [if_neg (show ¬ (false = true) by decide)] at H; exact H
                            clear H
                            have H := H1
                            clear H1
                            by_cases c24 : 0 ≤ x9_3
                            · rw [if_pos c24] at H
                              have c24b0 : decide (0 ≤ x9_3) = true := decide_eq_true c24
                              clear c24
                              by_cases c25 : x9_3 < (((rd_T28 l0 x4_1).f2).size : Int)
                              · rw [if_pos c25] at H
                                have c25b0 : decide (x9_3 < (((rd_T28 l0 x4_1).f2).size : Int)) = true := decide_eq_true c25
                                clear c25
                                obtain ⟨ji27, hji27⟩ : ∃ j_ : Int, (mn (wrap64 ((wrap64 (x7_3 * 10)) + (((bt ((rd_T28 l0 x4_1).f2) x9_3) - 48) % 256))) 1000000000) = j_ := ⟨_, rfl⟩
                                replace H : (frisketref27_Notes.l1 k3 l0 x3_1 x4_1 ((rd_T28 l0 x4_1).f2) t109 ji27 false (wrap64 (x9_3 + 1))) = some r := by first | (rw [hji27] at H; exact H) | (simp only [hji27] at H ⊢; exact H)
                                have hji27_ : (if 1000000000 < (wrap64 ((wrap64 (x7_3 * 10)) + (((bt ((rd_T28 l0 x4_1).f2) x9_3) - 48) % 256))) then 1000000000 else (wrap64 ((wrap64 (x7_3 * 10)) + (((bt ((rd_T28 l0 x4_1).f2) x9_3) - 48) % 256)))) = ji27 := hji27
                                have H' := Aside0.mk H
                                clear H
                                have p26 : 0 ≤ (x9_3 : Int) := of_decide_eq_true (by first | (with_reducible assumption) | assumption)
                                have q26 : x9_3 < (((rd_T28 l0 x4_1).f2).size : Int) := of_decide_eq_true (by first | (with_reducible assumption) | assumption)
                                have hx26 := bt_at ((rd_T28 l0 x4_1).f2) x9_3
                                replace p26 := eq_true p26
                                replace q26 := eq_true q26
                                go_wp2
                                go_roundg k3
                                case measure => have := HK1.out; have := HJ3.out; have := HK3.out; omega
                                case rel => exact ⟨(ji27), (false), (wrap64 (x9_3 + 1)), (by first | rfl | (simp; done) | (simp only [← hji27] <;> (first | rfl | simp)) | (simp [*]; done)), (by first | rfl | (simp; done) | (simp [*]; done)), (by first | rfl | (simp; done) | (simp [*]; done)), H', ⟨by have := HK1.out; have := HJ3.out; have := HK3.out; omega⟩, ⟨by (with_reducible repeat (first | apply Kd.R_alloc | apply Kd.R_drewN | apply Kd.R_drew)); exact HO_3.out⟩, ⟨by repeat (first | (with_reducible first | exact HB.out | apply below_alloc | apply pw_below_drewN | apply below_drew1) | exact HB.out)⟩⟩
                              · rw [if_neg c25] at H
                                exact absurd H (by simp)
                            · rw [if_neg c24] at H
                              exact absurd H (by simp)
                        · rw [if_neg c13] at H
                          have c13b0 : decide (x9_3 < (wrap64 (6 + t109))) = false := decide_eq_false c13
                          clear c13
                          by_cases c28 : x8_3 = true
                          · subst c28
                            have H1 : (if x7_3 ≤ 1000000 then ((frisketref01_Digits.f k3 x7_3).bind fun t110 => (if 6 ≤ (wrap64 (6 + t109)) then (if (wrap64 (6 + t109)) ≤ (((rd_T28 l0 x4_1).f2).size : Int) then (if t110.toList = (((rd_T28 l0 x4_1).f2).extract 6 ((wrap64 (6 + t109)) : Int).toNat).toList then (if 0 ≤ (wrap64 ((wrap64 (6 + t109)) + 1)) then (if (wrap64 ((wrap64 (6 + t109)) + 1)) ≤ (((rd_T28 l0 x4_1).f2).size : Int) then (if x3_1.length < 5864062014805 then (frisketref27_Notes.l0 k3 l0 (x3_1 ++ [(⟨((rd_T28 l0 x4_1).f2).extract ((wrap64 ((wrap64 (6 + t109)) + 1)) : Int).toNat ((rd_T28 l0 x4_1).f2).size, x7_3⟩ : S35)]) (wrap64 (x4_1 + 1))) else (none)) else (none)) else (none)) else (frisketref27_Notes.l0 k3 l0 x3_1 (wrap64 (x4_1 + 1)))) else (none)) else (none))) else (frisketref27_Notes.l0 k3 l0 x3_1 (wrap64 (x4_1 + 1)))) = some r := by rw [if_pos rfl] at H; exact H
                            clear H
                            have H := H1
                            clear H1
                            by_cases c29 : x7_3 ≤ 1000000
                            · rw [if_pos c29] at H
                              have c29b0 : decide (x7_3 ≤ 1000000) = true := decide_eq_true c29
                              clear c29
                              replace H := Option.bind_eq_some_iff.mp H
                              obtain ⟨t110, A300, H⟩ := H
                              replace H : (if 6 ≤ (wrap64 (6 + t109)) then (if (wrap64 (6 + t109)) ≤ (((rd_T28 l0 x4_1).f2).size : Int) then (if t110.toList = (((rd_T28 l0 x4_1).f2).extract 6 ((wrap64 (6 + t109)) : Int).toNat).toList then (if 0 ≤ (wrap64 ((wrap64 (6 + t109)) + 1)) then (if (wrap64 ((wrap64 (6 + t109)) + 1)) ≤ (((rd_T28 l0 x4_1).f2).size : Int) then (if x3_1.length < 5864062014805 then (frisketref27_Notes.l0 k3 l0 (x3_1 ++ [(⟨((rd_T28 l0 x4_1).f2).extract ((wrap64 ((wrap64 (6 + t109)) + 1)) : Int).toNat ((rd_T28 l0 x4_1).f2).size, x7_3⟩ : S35)]) (wrap64 (x4_1 + 1))) else (none)) else (none)) else (none)) else (frisketref27_Notes.l0 k3 l0 x3_1 (wrap64 (x4_1 + 1)))) else (none)) else (none)) = some r := H
                              have A30 := Aside0.mk A300
                              clear A300
                              by_cases c31 : 6 ≤ (wrap64 (6 + t109))
                              · rw [if_pos c31] at H
                                have c31b0 := eq_true c31
                                have c31b1 : decide (6 ≤ (wrap64 (6 + t109))) = true := decide_eq_true c31
                                by_cases c32 : (wrap64 (6 + t109)) ≤ (((rd_T28 l0 x4_1).f2).size : Int)
                                · rw [if_pos c32] at H
                                  have c32b0 := eq_true c32
                                  have c32b1 : decide ((wrap64 (6 + t109)) ≤ (((rd_T28 l0 x4_1).f2).size : Int)) = true := decide_eq_true c32
                                  by_cases c33 : t110.toList = (((rd_T28 l0 x4_1).f2).extract 6 ((wrap64 (6 + t109)) : Int).toNat).toList
                                  · rw [if_pos c33] at H
                                    have c33b0 : (t110.toList == (((rd_T28 l0 x4_1).f2).extract 6 ((wrap64 (6 + t109)) : Int).toNat).toList) = true := beq_iff_eq.mpr c33
                                    have c33b1 : (t110.toList != (((rd_T28 l0 x4_1).f2).extract 6 ((wrap64 (6 + t109)) : Int).toNat).toList) = false := bne_eq_false_iff_eq.mpr c33
                                    clear c33
                                    obtain ⟨ji34, hji34⟩ : ∃ j_ : Int, (wrap64 ((wrap64 (6 + t109)) + 1)) = j_ := ⟨_, rfl⟩
                                    replace H : (if 0 ≤ (ji34) then (if (ji34) ≤ (((rd_T28 l0 x4_1).f2).size : Int) then (if x3_1.length < 5864062014805 then (frisketref27_Notes.l0 k3 l0 (x3_1 ++ [(⟨((rd_T28 l0 x4_1).f2).extract ((ji34) : Int).toNat ((rd_T28 l0 x4_1).f2).size, x7_3⟩ : S35)]) (wrap64 (x4_1 + 1))) else (none)) else (none)) else (none)) = some r := by first | (rw [hji34] at H; exact H) | (simp only [hji34] at H ⊢; exact H)
                                    (try rw [hji34] at A30)
                                    have hji34w : (IntKind.i64.wrap ((wrap64 (6 + t109)) + 1)) = ji34 := (i64_w _).trans hji34
                                    by_cases c35 : 0 ≤ (ji34)
                                    · rw [if_pos c35] at H
                                      have c35b0 := eq_true c35
                                      have c35b1 : decide (0 ≤ (ji34)) = true := decide_eq_true c35
                                      clear c35
                                      by_cases c36 : (ji34) ≤ (((rd_T28 l0 x4_1).f2).size : Int)
                                      · rw [if_pos c36] at H
                                        have c36b0 := eq_true c36
                                        have c36b1 : decide ((ji34) ≤ (((rd_T28 l0 x4_1).f2).size : Int)) = true := decide_eq_true c36
                                        clear c36
                                        by_cases c37 : x3_1.length < 5864062014805
                                        · rw [if_pos c37] at H
                                          have LMc37 := Aside0.mk c37
                                          clear c37
                                          obtain ⟨y111, hy111⟩ : ∃ y_ : List (S35), y_ = (x3_1 ++ [(⟨((rd_T28 l0 x4_1).f2).extract ((ji34) : Int).toNat ((rd_T28 l0 x4_1).f2).size, x7_3⟩ : S35)]) := ⟨_, rfl⟩
                                          replace H : (frisketref27_Notes.l0 k3 l0 y111 (wrap64 (x4_1 + 1))) = some r := by first | (rw [hy111]; with_reducible exact H) | (have H2_ := (Option.bind_some _ _).symm.trans H; rw [hy111]; with_reducible exact H2_) | (have H2_ := (Option.bind_some _ _).symm.trans H; with_reducible exact H2_) | with_reducible exact H | (rw [hy111]; exact H) | exact H
                                          have Ny111 := Aside0.mk hy111
                                          clear hy111
                                          have H' := Aside0.mk H
                                          clear H
                                          try go_wp2
                                          have n0_ := Aside0.mk (Kd.R_drew HO_3.out)
                                          have n1_ := Aside0.mk (below_drew1 HB.out)
                                          clear HO_3
                                          clear HB
                                          have HO_3 := n0_
                                          have HB := n1_
                                          clear n0_ n1_
                                          refine start_ (n := 14) (S := fun w' => True) (ds := []) #[false, false, false, false, false, false, false, false, false, false, false, false, false, false] (by kernel_rfl) rfl rfl trivial (fun hHeld => ?_); refine with_tabW frisketref27_Notes.tab15 frisketref27_Notes.bits15 (fun HT_ HW_ => ?_)
                                          generalize wr.drew = w38 at HO_3 HB hHeld ⊢
                                          refine pure_ (i := 0) (N := some 70) (v := ?_) (a' := ?_) #[true, false, false, false, false, false, false, false, false, false, false, false, false, false] rfl rfl (any_of HT_.out (by kernel_rfl)) (fun _ _ _ h => h) (Or.inl ⟨by rfl, ?_⟩) ?_ ?_
                                          rotate_left
                                          · intro w'
                                            go_simp
                                            with_reducible rfl
                                          rotate_left
                                          · simp only [Act.put, List.setIfInBounds_toArray, List.set_cons_zero, List.set_cons_succ, i64_w, i32_w]
                                            rfl
                                          refine pure_ (i := 1) (N := some 71) (v := ?_) (a' := ?_) #[true, true, false, false, false, false, false, false, false, false, false, false, false, false] rfl rfl (any_of HT_.out (by kernel_rfl)) (fun _ _ _ h => h) (Or.inl ⟨by rfl, ?_⟩) ?_ ?_
                                          rotate_left
                                          · intro w'
                                            go_simp
                                            with_reducible rfl
                                          rotate_left
                                          · simp only [Act.put, List.setIfInBounds_toArray, List.set_cons_zero, List.set_cons_succ, i64_w, i32_w]
                                            rfl
                                          refine pure_ (i := 2) (N := some 72) (v := ?_) (a' := ?_) #[true, true, true, false, false, false, false, false, false, false, false, false, false, false] rfl rfl (any_of HT_.out (by kernel_rfl)) (fun _ _ _ h => h) (Or.inl ⟨by rfl, ?_⟩) ?_ ?_
                                          rotate_left
                                          · intro w'
                                            go_simp
                                            with_reducible rfl
                                          rotate_left
                                          · simp only [Act.put, List.setIfInBounds_toArray, List.set_cons_zero, List.set_cons_succ, i64_w, i32_w]
                                            rfl
                                          refine pure_ (i := 3) (N := some 73) (v := ?_) (a' := ?_) #[true, true, true, true, false, false, false, false, false, false, false, false, false, false] rfl rfl (any_of HT_.out (by kernel_rfl)) (fun _ _ _ h => h) (Or.inl ⟨by rfl, ?_⟩) ?_ ?_
                                          rotate_left
                                          · intro w'
                                            go_simp
                                            with_reducible rfl
                                          rotate_left
                                          · simp only [Act.put, List.setIfInBounds_toArray, List.set_cons_zero, List.set_cons_succ, i64_w, i32_w]
                                            rfl
                                          refine pure_ (i := 4) (N := some 74) (v := ?_) (a' := ?_) #[true, true, true, true, true, false, false, false, false, false, false, false, false, false] rfl rfl (any_of HT_.out (by kernel_rfl)) (fun _ _ _ h => h) (Or.inl ⟨by rfl, ?_⟩) ?_ ?_
                                          rotate_left
                                          · intro w'
                                            go_simp
                                            with_reducible rfl
                                          rotate_left
                                          · simp only [Act.put, List.setIfInBounds_toArray, List.set_cons_zero, List.set_cons_succ, i64_w, i32_w]
                                            rfl
                                          refine pure_ (i := 5) (N := some 75) (v := ?_) (a' := ?_) #[true, true, true, true, true, true, false, false, false, false, false, false, false, false] rfl rfl (any_of HT_.out (by kernel_rfl)) (fun _ _ _ h => h) (Or.inl ⟨by rfl, ?_⟩) ?_ ?_
                                          rotate_left
                                          · intro w'
                                            go_simp
                                            with_reducible rfl
                                          rotate_left
                                          · simp only [Act.put, List.setIfInBounds_toArray, List.set_cons_zero, List.set_cons_succ, i64_w, i32_w]
                                            rfl
                                          refine pure_ (i := 6) (N := some 76) (v := ?_) (a' := ?_) #[true, true, true, true, true, true, true, false, false, false, false, false, false, false] rfl rfl (any_of HT_.out (by kernel_rfl)) (fun _ _ _ h => h) (Or.inl ⟨by rfl, ?_⟩) ?_ ?_
                                          rotate_left
                                          · intro w'
                                            go_simp
                                            with_reducible rfl
                                          rotate_left
                                          · simp only [Act.put, List.setIfInBounds_toArray, List.set_cons_zero, List.set_cons_succ, i64_w, i32_w]
                                            rfl
                                          refine pure_ (i := 8) (N := some 78) (v := ?_) (a' := ?_) #[true, true, true, true, true, true, true, false, true, false, false, false, false, false] rfl rfl (any_of HT_.out (by kernel_rfl)) (fun _ _ _ h => h) (Or.inl ⟨by rfl, ?_⟩) ?_ ?_
                                          rotate_left
                                          · intro w'
                                            go_simp
                                            with_reducible rfl
                                          rotate_left
                                          · simp only [Act.put, List.setIfInBounds_toArray, List.set_cons_zero, List.set_cons_succ, i64_w, i32_w]
                                            rfl
                                          refine pure_ (i := 9) (N := some 79) (v := ?_) (a' := ?_) #[true, true, true, true, true, true, true, false, true, true, false, false, false, false] rfl rfl (any_of HT_.out (by kernel_rfl)) (fun _ _ _ h => h) (Or.inl ⟨by rfl, ?_⟩) ?_ ?_
                                          rotate_left
                                          · intro w'
                                            go_simp
                                            with_reducible rfl
                                          rotate_left
                                          · simp only [Act.put, List.setIfInBounds_toArray, List.set_cons_zero, List.set_cons_succ, i64_w, i32_w]
                                            rfl
                                          refine pure_ (i := 10) (N := some 80) (v := ?_) (a' := ?_) #[true, true, true, true, true, true, true, false, true, true, true, false, false, false] rfl rfl (any_of HT_.out (by kernel_rfl)) (fun _ _ _ h => h) (Or.inl ⟨by rfl, ?_⟩) ?_ ?_
                                          rotate_left
                                          · intro w'
                                            go_simp
                                            with_reducible rfl
                                          rotate_left
                                          · simp only [Act.put, List.setIfInBounds_toArray, List.set_cons_zero, List.set_cons_succ, i64_w, i32_w]
                                            rfl
                                          refine pure_ (i := 11) (N := some 81) (v := ?_) (a' := ?_) #[true, true, true, true, true, true, true, false, true, true, true, true, false, false] rfl rfl (any_of HT_.out (by kernel_rfl)) (fun _ _ _ h => h) (Or.inl ⟨by rfl, ?_⟩) ?_ ?_
                                          rotate_left
                                          · intro w'
                                            go_simp
                                            with_reducible rfl
                                          rotate_left
                                          · simp only [Act.put, List.setIfInBounds_toArray, List.set_cons_zero, List.set_cons_succ, i64_w, i32_w]
                                            rfl
                                          refine one_ (i := 7) (N := some 77) #[true, true, true, true, true, true, true, true, true, true, true, true, false, false] rfl rfl (one_of HT_.out (by kernel_rfl)) (by decide) (fun K hK => ?_)
                                          refine goes_ Tryd.func19 (by kernel_rfl) rfl #[.int .i64 x7_3] (by rfl) rfl rfl (by (try simp only [List.map_toArray, List.map_cons, List.map_nil]); first | done | rfl | (simp only [List.length_drop, List.length_take]; rfl)) ?_
                                          with_reducible refine (frisketref01_Digits.calls k3 x7_3 t110 _ A30.out).mono ?_
                                          rintro e w39 ⟨rfl, hb⟩
                                          refine ⟨_, rfl, ?_⟩
                                          have n0_ := Aside0.mk (Kd.R_below (by (with_reducible repeat (first | apply Kd.R_alloc | apply Kd.R_drewN | apply Kd.R_drew)); exact HO_3.out) hb)
                                          have n1_ := Aside0.mk (below_step (by repeat (first | (with_reducible first | exact HB.out | apply below_alloc | apply pw_below_drewN | apply below_drew1) | exact HB.out)) hb)
                                          clear HO_3
                                          clear HB
                                          have HO_3 := n0_
                                          have HB := n1_
                                          clear n0_ n1_
                                          (try clear hb)
                                          (try clear hb2)
                                          (try clear hk)
                                          (try clear hi)
                                          refine hK.out _ _ trivial (fun hHeld => ?_)
                                          clear hK K
                                          refine norm_ (a' := ?_) ?_ ?_
                                          rotate_left
                                          · show Act.put _ (some 77) _ = _
                                            simp only [Act.put, List.setIfInBounds_toArray, List.set_cons_zero, List.set_cons_succ, i64_w, i32_w]
                                            rfl
                                          refine pure_ (i := 12) (N := some 82) (v := ?_) (a' := ?_) #[true, true, true, true, true, true, true, true, true, true, true, true, true, false] rfl rfl (any_of HT_.out (by kernel_rfl)) (fun _ _ _ h => h) (Or.inl ⟨by rfl, ?_⟩) ?_ ?_
                                          rotate_left
                                          · intro w'
                                            go_simp
                                            with_reducible rfl
                                          rotate_left
                                          · simp only [Act.put, List.setIfInBounds_toArray, List.set_cons_zero, List.set_cons_succ, i64_w, i32_w]
                                            rfl
                                          refine pure_ (i := 13) (N := some 83) (v := ?_) (a' := ?_) #[true, true, true, true, true, true, true, true, true, true, true, true, true, true] rfl rfl (any_of HT_.out (by kernel_rfl)) (fun _ _ _ h => h) (Or.inl ⟨by rfl, ?_⟩) ?_ ?_
                                          rotate_left
                                          · intro w'
                                            go_simp
                                            with_reducible rfl
                                          rotate_left
                                          · simp only [Act.put, List.setIfInBounds_toArray, List.set_cons_zero, List.set_cons_succ, i64_w, i32_w]
                                            rfl
                                          refine done_ (done_of HT_.out (by kernel_rfl)) ?_
                                          try go_wp2_with (first | ((with_reducible refine gate_builtin (b := .append) (xs := #[.tmp 84, .tmp 92]) rfl ?_); (try (refine gate_guard (by rfl) ?_; dsimp only)); at_builtin; refine Kd.R_append k35 (w0 := w) w.heap.size rfl (.tmp 84) (.tmp 92) 31 35 (.agg #[(.string ⟨#[]⟩), (.int .i64 0)]) 24 rfl Tryd.underlying31 info35 rfl (by decide) (by omega) u3 x3_1 (⟨((rd_T28 l0 x4_1).f2).extract ((ji34) : Int).toNat ((rd_T28 l0 x4_1).f2).size, x7_3⟩ : S35) [.string (((rd_T28 l0 x4_1).f2).extract ((ji34) : Int).toNat ((rd_T28 l0 x4_1).f2).size), .int .i64 x7_3] (fun _ => True) (fun _ => False) rfl rfl ?aP (fun _ hk => hk.elim) ?aF ?aO ?aB ?aS ?aL ?_; (case aP => exact k35_mkM _ _ _ (⟨((rd_T28 l0 x4_1).f2).extract ((ji34) : Int).toNat ((rd_T28 l0 x4_1).f2).size, x7_3⟩ : S35)); (case aB => exact (by repeat (first | (with_reducible first | exact HB.out | apply below_alloc | apply pw_below_drewN | apply below_drew1) | exact HB.out))); (case aF => exact (fun _ _ => trivial)); (case aO => exact (by (with_reducible repeat (first | apply Kd.R_alloc | apply Kd.R_drewN | apply Kd.R_drew)); exact HO_3.out)); (case aS => exact (below_size (by repeat (first | (with_reducible first | exact HB.out | apply below_alloc | apply pw_below_drewN | apply below_drew1) | exact HB.out)))); (case aL => have := LMc37.out; omega); intro v112 w40 ho hb hg hat; rw [← Ny111.out] at ho; have n0_ := Aside0.mk (hb); have n1_ := Aside0.mk (ho); clear HB; clear HO_3; have HB := n0_; have HO113 := n1_; clear n0_ n1_; clear ho hb hg hat))
                                          go_roundg k3
                                          case measure => have := HK1.out; have := HJ3.out; have := HK3.out; omega
                                          case rel => exact ⟨(y111), (wrap64 (x4_1 + 1)), (by first | rfl | (simp; done) | (simp [*]; done)), H', ⟨by have := HK1.out; have := HJ3.out; have := HK3.out; omega⟩, ⟨by (with_reducible repeat (first | apply Kd.R_alloc | apply Kd.R_drewN | apply Kd.R_drew)); exact HO113.out⟩, ⟨by repeat (first | (with_reducible first | exact HB.out | apply below_alloc | apply pw_below_drewN | apply below_drew1) | exact HB.out)⟩⟩
                                        · rw [if_neg c37] at H
                                          exact absurd H (by simp)
                                      · rw [if_neg c36] at H
                                        exact absurd H (by simp)
                                    · rw [if_neg c35] at H
                                      exact absurd H (by simp)
                                  · rw [if_neg c33] at H
                                    have c33b0 : (t110.toList == (((rd_T28 l0 x4_1).f2).extract 6 ((wrap64 (6 + t109)) : Int).toNat).toList) = false := beq_eq_false_iff_ne.mpr c33
                                    have c33b1 : (t110.toList != (((rd_T28 l0 x4_1).f2).extract 6 ((wrap64 (6 + t109)) : Int).toNat).toList) = true := bne_iff_ne.mpr c33
                                    have H' := Aside0.mk H
                                    clear H
                                    try go_wp2
                                    have n0_ := Aside0.mk (Kd.R_drew HO_3.out)
                                    have n1_ := Aside0.mk (below_drew1 HB.out)
                                    clear HO_3
                                    clear HB
                                    have HO_3 := n0_
                                    have HB := n1_
                                    clear n0_ n1_
                                    refine start_ (n := 14) (S := fun w' => True) (ds := []) #[false, false, false, false, false, false, false, false, false, false, false, false, false, false] (by kernel_rfl) rfl rfl trivial (fun hHeld => ?_); refine with_tabW frisketref27_Notes.tab15 frisketref27_Notes.bits15 (fun HT_ HW_ => ?_)
                                    generalize wr.drew = w41 at HO_3 HB hHeld ⊢
                                    refine pure_ (i := 0) (N := some 70) (v := ?_) (a' := ?_) #[true, false, false, false, false, false, false, false, false, false, false, false, false, false] rfl rfl (any_of HT_.out (by kernel_rfl)) (fun _ _ _ h => h) (Or.inl ⟨by rfl, ?_⟩) ?_ ?_
                                    rotate_left
                                    · intro w'
                                      go_simp
                                      with_reducible rfl
                                    rotate_left
                                    · simp only [Act.put, List.setIfInBounds_toArray, List.set_cons_zero, List.set_cons_succ, i64_w, i32_w]
                                      rfl
                                    refine pure_ (i := 1) (N := some 71) (v := ?_) (a' := ?_) #[true, true, false, false, false, false, false, false, false, false, false, false, false, false] rfl rfl (any_of HT_.out (by kernel_rfl)) (fun _ _ _ h => h) (Or.inl ⟨by rfl, ?_⟩) ?_ ?_
                                    rotate_left
                                    · intro w'
                                      go_simp
                                      with_reducible rfl
                                    rotate_left
                                    · simp only [Act.put, List.setIfInBounds_toArray, List.set_cons_zero, List.set_cons_succ, i64_w, i32_w]
                                      rfl
                                    refine pure_ (i := 2) (N := some 72) (v := ?_) (a' := ?_) #[true, true, true, false, false, false, false, false, false, false, false, false, false, false] rfl rfl (any_of HT_.out (by kernel_rfl)) (fun _ _ _ h => h) (Or.inl ⟨by rfl, ?_⟩) ?_ ?_
                                    rotate_left
                                    · intro w'
                                      go_simp
                                      with_reducible rfl
                                    rotate_left
                                    · simp only [Act.put, List.setIfInBounds_toArray, List.set_cons_zero, List.set_cons_succ, i64_w, i32_w]
                                      rfl
                                    refine pure_ (i := 3) (N := some 73) (v := ?_) (a' := ?_) #[true, true, true, true, false, false, false, false, false, false, false, false, false, false] rfl rfl (any_of HT_.out (by kernel_rfl)) (fun _ _ _ h => h) (Or.inl ⟨by rfl, ?_⟩) ?_ ?_
                                    rotate_left
                                    · intro w'
                                      go_simp
                                      with_reducible rfl
                                    rotate_left
                                    · simp only [Act.put, List.setIfInBounds_toArray, List.set_cons_zero, List.set_cons_succ, i64_w, i32_w]
                                      rfl
                                    refine pure_ (i := 4) (N := some 74) (v := ?_) (a' := ?_) #[true, true, true, true, true, false, false, false, false, false, false, false, false, false] rfl rfl (any_of HT_.out (by kernel_rfl)) (fun _ _ _ h => h) (Or.inl ⟨by rfl, ?_⟩) ?_ ?_
                                    rotate_left
                                    · intro w'
                                      go_simp
                                      with_reducible rfl
                                    rotate_left
                                    · simp only [Act.put, List.setIfInBounds_toArray, List.set_cons_zero, List.set_cons_succ, i64_w, i32_w]
                                      rfl
                                    refine pure_ (i := 5) (N := some 75) (v := ?_) (a' := ?_) #[true, true, true, true, true, true, false, false, false, false, false, false, false, false] rfl rfl (any_of HT_.out (by kernel_rfl)) (fun _ _ _ h => h) (Or.inl ⟨by rfl, ?_⟩) ?_ ?_
                                    rotate_left
                                    · intro w'
                                      go_simp
                                      with_reducible rfl
                                    rotate_left
                                    · simp only [Act.put, List.setIfInBounds_toArray, List.set_cons_zero, List.set_cons_succ, i64_w, i32_w]
                                      rfl
                                    refine pure_ (i := 6) (N := some 76) (v := ?_) (a' := ?_) #[true, true, true, true, true, true, true, false, false, false, false, false, false, false] rfl rfl (any_of HT_.out (by kernel_rfl)) (fun _ _ _ h => h) (Or.inl ⟨by rfl, ?_⟩) ?_ ?_
                                    rotate_left
                                    · intro w'
                                      go_simp
                                      with_reducible rfl
                                    rotate_left
                                    · simp only [Act.put, List.setIfInBounds_toArray, List.set_cons_zero, List.set_cons_succ, i64_w, i32_w]
                                      rfl
                                    refine pure_ (i := 8) (N := some 78) (v := ?_) (a' := ?_) #[true, true, true, true, true, true, true, false, true, false, false, false, false, false] rfl rfl (any_of HT_.out (by kernel_rfl)) (fun _ _ _ h => h) (Or.inl ⟨by rfl, ?_⟩) ?_ ?_
                                    rotate_left
                                    · intro w'
                                      go_simp
                                      with_reducible rfl
                                    rotate_left
                                    · simp only [Act.put, List.setIfInBounds_toArray, List.set_cons_zero, List.set_cons_succ, i64_w, i32_w]
                                      rfl
                                    refine pure_ (i := 9) (N := some 79) (v := ?_) (a' := ?_) #[true, true, true, true, true, true, true, false, true, true, false, false, false, false] rfl rfl (any_of HT_.out (by kernel_rfl)) (fun _ _ _ h => h) (Or.inl ⟨by rfl, ?_⟩) ?_ ?_
                                    rotate_left
                                    · intro w'
                                      go_simp
                                      with_reducible rfl
                                    rotate_left
                                    · simp only [Act.put, List.setIfInBounds_toArray, List.set_cons_zero, List.set_cons_succ, i64_w, i32_w]
                                      rfl
                                    refine pure_ (i := 10) (N := some 80) (v := ?_) (a' := ?_) #[true, true, true, true, true, true, true, false, true, true, true, false, false, false] rfl rfl (any_of HT_.out (by kernel_rfl)) (fun _ _ _ h => h) (Or.inl ⟨by rfl, ?_⟩) ?_ ?_
                                    rotate_left
                                    · intro w'
                                      go_simp
                                      with_reducible rfl
                                    rotate_left
                                    · simp only [Act.put, List.setIfInBounds_toArray, List.set_cons_zero, List.set_cons_succ, i64_w, i32_w]
                                      rfl
                                    refine pure_ (i := 11) (N := some 81) (v := ?_) (a' := ?_) #[true, true, true, true, true, true, true, false, true, true, true, true, false, false] rfl rfl (any_of HT_.out (by kernel_rfl)) (fun _ _ _ h => h) (Or.inl ⟨by rfl, ?_⟩) ?_ ?_
                                    rotate_left
                                    · intro w'
                                      go_simp
                                      with_reducible rfl
                                    rotate_left
                                    · simp only [Act.put, List.setIfInBounds_toArray, List.set_cons_zero, List.set_cons_succ, i64_w, i32_w]
                                      rfl
                                    refine one_ (i := 7) (N := some 77) #[true, true, true, true, true, true, true, true, true, true, true, true, false, false] rfl rfl (one_of HT_.out (by kernel_rfl)) (by decide) (fun K hK => ?_)
                                    refine goes_ Tryd.func19 (by kernel_rfl) rfl #[.int .i64 x7_3] (by rfl) rfl rfl (by (try simp only [List.map_toArray, List.map_cons, List.map_nil]); first | done | rfl | (simp only [List.length_drop, List.length_take]; rfl)) ?_
                                    with_reducible refine (frisketref01_Digits.calls k3 x7_3 t110 _ A30.out).mono ?_
                                    rintro e w42 ⟨rfl, hb⟩
                                    refine ⟨_, rfl, ?_⟩
                                    have n0_ := Aside0.mk (Kd.R_below (by (with_reducible repeat (first | apply Kd.R_alloc | apply Kd.R_drewN | apply Kd.R_drew)); exact HO_3.out) hb)
                                    have n1_ := Aside0.mk (below_step (by repeat (first | (with_reducible first | exact HB.out | apply below_alloc | apply pw_below_drewN | apply below_drew1) | exact HB.out)) hb)
                                    clear HO_3
                                    clear HB
                                    have HO_3 := n0_
                                    have HB := n1_
                                    clear n0_ n1_
                                    (try clear hb)
                                    (try clear hb2)
                                    (try clear hk)
                                    (try clear hi)
                                    refine hK.out _ _ trivial (fun hHeld => ?_)
                                    clear hK K
                                    refine norm_ (a' := ?_) ?_ ?_
                                    rotate_left
                                    · show Act.put _ (some 77) _ = _
                                      simp only [Act.put, List.setIfInBounds_toArray, List.set_cons_zero, List.set_cons_succ, i64_w, i32_w]
                                      rfl
                                    refine pure_ (i := 12) (N := some 82) (v := ?_) (a' := ?_) #[true, true, true, true, true, true, true, true, true, true, true, true, true, false] rfl rfl (any_of HT_.out (by kernel_rfl)) (fun _ _ _ h => h) (Or.inl ⟨by rfl, ?_⟩) ?_ ?_
                                    rotate_left
                                    · intro w'
                                      go_simp
                                      with_reducible rfl
                                    rotate_left
                                    · simp only [Act.put, List.setIfInBounds_toArray, List.set_cons_zero, List.set_cons_succ, i64_w, i32_w]
                                      rfl
                                    refine pure_ (i := 13) (N := some 83) (v := ?_) (a' := ?_) #[true, true, true, true, true, true, true, true, true, true, true, true, true, true] rfl rfl (any_of HT_.out (by kernel_rfl)) (fun _ _ _ h => h) (Or.inl ⟨by rfl, ?_⟩) ?_ ?_
                                    rotate_left
                                    · intro w'
                                      go_simp
                                      with_reducible rfl
                                    rotate_left
                                    · simp only [Act.put, List.setIfInBounds_toArray, List.set_cons_zero, List.set_cons_succ, i64_w, i32_w]
                                      rfl
                                    refine done_ (done_of HT_.out (by kernel_rfl)) ?_
                                    try go_wp2
                                    go_roundg k3
                                    case measure => have := HK1.out; have := HJ3.out; have := HK3.out; omega
                                    case rel => exact ⟨(x3_1), (wrap64 (x4_1 + 1)), (by first | rfl | (simp; done) | (simp [*]; done)), H', ⟨by have := HK1.out; have := HJ3.out; have := HK3.out; omega⟩, ⟨by (with_reducible repeat (first | apply Kd.R_alloc | apply Kd.R_drewN | apply Kd.R_drew)); exact HO_3.out⟩, ⟨by repeat (first | (with_reducible first | exact HB.out | apply below_alloc | apply pw_below_drewN | apply below_drew1) | exact HB.out)⟩⟩
                                · rw [if_neg c32] at H
                                  exact absurd H (by simp)
                              · rw [if_neg c31] at H
                                exact absurd H (by simp)
                            · rw [if_neg c29] at H
                              have c29b0 : decide (x7_3 ≤ 1000000) = false := decide_eq_false c29
                              clear c29
                              have H' := Aside0.mk H
                              clear H
                              try go_wp2
                              have n0_ := Aside0.mk (Kd.R_drew HO_3.out)
                              have n1_ := Aside0.mk (below_drew1 HB.out)
                              clear HO_3
                              clear HB
                              have HO_3 := n0_
                              have HB := n1_
                              clear n0_ n1_
                              refine start_ (n := 14) (S := fun w' => True) (ds := []) #[false, false, false, false, false, false, false, false, false, false, false, false, false, false] (by kernel_rfl) rfl rfl trivial (fun hHeld => ?_); refine with_tabW frisketref27_Notes.tab15 frisketref27_Notes.bits15 (fun HT_ HW_ => ?_)
                              generalize wr.drew = w43 at HO_3 HB hHeld ⊢
                              refine pure_ (i := 0) (N := some 70) (v := ?_) (a' := ?_) #[true, false, false, false, false, false, false, false, false, false, false, false, false, false] rfl rfl (any_of HT_.out (by kernel_rfl)) (fun _ _ _ h => h) (Or.inl ⟨by rfl, ?_⟩) ?_ ?_
                              rotate_left
                              · intro w'
                                go_simp
                                with_reducible rfl
                              rotate_left
                              · simp only [Act.put, List.setIfInBounds_toArray, List.set_cons_zero, List.set_cons_succ, i64_w, i32_w]
                                rfl
                              refine pure_ (i := 1) (N := some 71) (v := ?_) (a' := ?_) #[true, true, false, false, false, false, false, false, false, false, false, false, false, false] rfl rfl (any_of HT_.out (by kernel_rfl)) (fun _ _ _ h => h) (Or.inl ⟨by rfl, ?_⟩) ?_ ?_
                              rotate_left
                              · intro w'
                                go_simp
                                with_reducible rfl
                              rotate_left
                              · simp only [Act.put, List.setIfInBounds_toArray, List.set_cons_zero, List.set_cons_succ, i64_w, i32_w]
                                rfl
                              refine pure_ (i := 2) (N := some 72) (v := ?_) (a' := ?_) #[true, true, true, false, false, false, false, false, false, false, false, false, false, false] rfl rfl (any_of HT_.out (by kernel_rfl)) (fun _ _ _ h => h) (Or.inl ⟨by rfl, ?_⟩) ?_ ?_
                              rotate_left
                              · intro w'
                                go_simp
                                with_reducible rfl
                              rotate_left
                              · simp only [Act.put, List.setIfInBounds_toArray, List.set_cons_zero, List.set_cons_succ, i64_w, i32_w]
                                rfl
                              refine pure_ (i := 3) (N := some 73) (v := ?_) (a' := ?_) #[true, true, true, true, false, false, false, false, false, false, false, false, false, false] rfl rfl (any_of HT_.out (by kernel_rfl)) (fun _ _ _ h => h) (Or.inl ⟨by rfl, ?_⟩) ?_ ?_
                              rotate_left
                              · intro w'
                                go_simp
                                with_reducible rfl
                              rotate_left
                              · simp only [Act.put, List.setIfInBounds_toArray, List.set_cons_zero, List.set_cons_succ, i64_w, i32_w]
                                rfl
                              refine pure_ (i := 4) (N := some 74) (v := ?_) (a' := ?_) #[true, true, true, true, true, false, false, false, false, false, false, false, false, false] rfl rfl (any_of HT_.out (by kernel_rfl)) (fun _ _ _ h => h) (Or.inl ⟨by rfl, ?_⟩) ?_ ?_
                              rotate_left
                              · intro w'
                                go_simp
                                with_reducible rfl
                              rotate_left
                              · simp only [Act.put, List.setIfInBounds_toArray, List.set_cons_zero, List.set_cons_succ, i64_w, i32_w]
                                rfl
                              refine pure_ (i := 5) (N := some 75) (v := ?_) (a' := ?_) #[true, true, true, true, true, true, false, false, false, false, false, false, false, false] rfl rfl (any_of HT_.out (by kernel_rfl)) (fun _ _ _ h => h) (Or.inl ⟨by rfl, ?_⟩) ?_ ?_
                              rotate_left
                              · intro w'
                                go_simp
                                with_reducible rfl
                              rotate_left
                              · simp only [Act.put, List.setIfInBounds_toArray, List.set_cons_zero, List.set_cons_succ, i64_w, i32_w]
                                rfl
                              refine pure_ (i := 6) (N := some 76) (v := undef) (a' := ?_) #[true, true, true, true, true, true, true, false, false, false, false, false, false, false] rfl rfl (any_of HT_.out (by kernel_rfl)) (fun _ _ _ h => h) (Or.inr ⟨by rfl, rfl⟩) ?_ ?_
                              rotate_left
                              · simp only [Act.put, List.setIfInBounds_toArray, List.set_cons_zero, List.set_cons_succ, i64_w, i32_w]
                                rfl
                              refine pure_ (i := 7) (N := some 77) (v := undef) (a' := ?_) #[true, true, true, true, true, true, true, true, false, false, false, false, false, false] rfl rfl (any_of HT_.out (by kernel_rfl)) (fun _ _ _ h => h) (Or.inr ⟨by rfl, rfl⟩) ?_ ?_
                              rotate_left
                              · simp only [Act.put, List.setIfInBounds_toArray, List.set_cons_zero, List.set_cons_succ, i64_w, i32_w]
                                rfl
                              refine pure_ (i := 8) (N := some 78) (v := undef) (a' := ?_) #[true, true, true, true, true, true, true, true, true, false, false, false, false, false] rfl rfl (any_of HT_.out (by kernel_rfl)) (fun _ _ _ h => h) (Or.inr ⟨by rfl, rfl⟩) ?_ ?_
                              rotate_left
                              · simp only [Act.put, List.setIfInBounds_toArray, List.set_cons_zero, List.set_cons_succ, i64_w, i32_w]
                                rfl
                              refine pure_ (i := 9) (N := some 79) (v := undef) (a' := ?_) #[true, true, true, true, true, true, true, true, true, true, false, false, false, false] rfl rfl (any_of HT_.out (by kernel_rfl)) (fun _ _ _ h => h) (Or.inr ⟨by rfl, rfl⟩) ?_ ?_
                              rotate_left
                              · simp only [Act.put, List.setIfInBounds_toArray, List.set_cons_zero, List.set_cons_succ, i64_w, i32_w]
                                rfl
                              refine pure_ (i := 10) (N := some 80) (v := undef) (a' := ?_) #[true, true, true, true, true, true, true, true, true, true, true, false, false, false] rfl rfl (any_of HT_.out (by kernel_rfl)) (fun _ _ _ h => h) (Or.inr ⟨by rfl, rfl⟩) ?_ ?_
                              rotate_left
                              · simp only [Act.put, List.setIfInBounds_toArray, List.set_cons_zero, List.set_cons_succ, i64_w, i32_w]
                                rfl
                              refine pure_ (i := 11) (N := some 81) (v := undef) (a' := ?_) #[true, true, true, true, true, true, true, true, true, true, true, true, false, false] rfl rfl (any_of HT_.out (by kernel_rfl)) (fun _ _ _ h => h) (Or.inr ⟨by rfl, rfl⟩) ?_ ?_
                              rotate_left
                              · simp only [Act.put, List.setIfInBounds_toArray, List.set_cons_zero, List.set_cons_succ, i64_w, i32_w]
                                rfl
                              refine pure_ (i := 12) (N := some 82) (v := undef) (a' := ?_) #[true, true, true, true, true, true, true, true, true, true, true, true, true, false] rfl rfl (any_of HT_.out (by kernel_rfl)) (fun _ _ _ h => h) (Or.inr ⟨by rfl, rfl⟩) ?_ ?_
                              rotate_left
                              · simp only [Act.put, List.setIfInBounds_toArray, List.set_cons_zero, List.set_cons_succ, i64_w, i32_w]
                                rfl
                              refine pure_ (i := 13) (N := some 83) (v := ?_) (a' := ?_) #[true, true, true, true, true, true, true, true, true, true, true, true, true, true] rfl rfl (any_of HT_.out (by kernel_rfl)) (fun _ _ _ h => h) (Or.inl ⟨by rfl, ?_⟩) ?_ ?_
                              rotate_left
                              · intro w'
                                go_simp
                                with_reducible rfl
                              rotate_left
                              · simp only [Act.put, List.setIfInBounds_toArray, List.set_cons_zero, List.set_cons_succ, i64_w, i32_w]
                                rfl
                              refine done_ (done_of HT_.out (by kernel_rfl)) ?_
                              try go_wp2
                              go_roundg k3
                              case measure => have := HK1.out; have := HJ3.out; have := HK3.out; omega
                              case rel => exact ⟨(x3_1), (wrap64 (x4_1 + 1)), (by first | rfl | (simp; done) | (simp [*]; done)), H', ⟨by have := HK1.out; have := HJ3.out; have := HK3.out; omega⟩, ⟨by (with_reducible repeat (first | apply Kd.R_alloc | apply Kd.R_drewN | apply Kd.R_drew)); exact HO_3.out⟩, ⟨by repeat (first | (with_reducible first | exact HB.out | apply below_alloc | apply pw_below_drewN | apply below_drew1) | exact HB.out)⟩⟩
                          · replace c28 := Bool.eq_false_iff.mpr c28
                            subst c28
                            have H1 : (frisketref27_Notes.l0 k3 l0 x3_1 (wrap64 (x4_1 + 1))) = some r := by rw [if_neg (show ¬ (false = true) by decide)] at H; exact H
                            clear H
                            have H := H1
                            clear H1
                            have H' := Aside0.mk H
                            clear H
                            try go_wp2
                            have n0_ := Aside0.mk (Kd.R_drew HO_3.out)
                            have n1_ := Aside0.mk (below_drew1 HB.out)
                            clear HO_3
                            clear HB
                            have HO_3 := n0_
                            have HB := n1_
                            clear n0_ n1_
                            refine start_ (n := 14) (S := fun w' => True) (ds := []) #[false, false, false, false, false, false, false, false, false, false, false, false, false, false] (by kernel_rfl) rfl rfl trivial (fun hHeld => ?_); refine with_tabW frisketref27_Notes.tab15 frisketref27_Notes.bits15 (fun HT_ HW_ => ?_)
                            generalize wr.drew = w44 at HO_3 HB hHeld ⊢
                            refine pure_ (i := 0) (N := some 70) (v := ?_) (a' := ?_) #[true, false, false, false, false, false, false, false, false, false, false, false, false, false] rfl rfl (any_of HT_.out (by kernel_rfl)) (fun _ _ _ h => h) (Or.inl ⟨by rfl, ?_⟩) ?_ ?_
                            rotate_left
                            · intro w'
                              go_simp
                              with_reducible rfl
                            rotate_left
                            · simp only [Act.put, List.setIfInBounds_toArray, List.set_cons_zero, List.set_cons_succ, i64_w, i32_w]
                              rfl
                            refine pure_ (i := 1) (N := some 71) (v := ?_) (a' := ?_) #[true, true, false, false, false, false, false, false, false, false, false, false, false, false] rfl rfl (any_of HT_.out (by kernel_rfl)) (fun _ _ _ h => h) (Or.inl ⟨by rfl, ?_⟩) ?_ ?_
                            rotate_left
                            · intro w'
                              go_simp
                              with_reducible rfl
                            rotate_left
                            · simp only [Act.put, List.setIfInBounds_toArray, List.set_cons_zero, List.set_cons_succ, i64_w, i32_w]
                              rfl
                            refine pure_ (i := 2) (N := some 72) (v := undef) (a' := ?_) #[true, true, true, false, false, false, false, false, false, false, false, false, false, false] rfl rfl (any_of HT_.out (by kernel_rfl)) (fun _ _ _ h => h) (Or.inr ⟨by rfl, rfl⟩) ?_ ?_
                            rotate_left
                            · simp only [Act.put, List.setIfInBounds_toArray, List.set_cons_zero, List.set_cons_succ, i64_w, i32_w]
                              rfl
                            refine pure_ (i := 3) (N := some 73) (v := undef) (a' := ?_) #[true, true, true, true, false, false, false, false, false, false, false, false, false, false] rfl rfl (any_of HT_.out (by kernel_rfl)) (fun _ _ _ h => h) (Or.inr ⟨by rfl, rfl⟩) ?_ ?_
                            rotate_left
                            · simp only [Act.put, List.setIfInBounds_toArray, List.set_cons_zero, List.set_cons_succ, i64_w, i32_w]
                              rfl
                            refine pure_ (i := 4) (N := some 74) (v := ?_) (a' := ?_) #[true, true, true, true, true, false, false, false, false, false, false, false, false, false] rfl rfl (any_of HT_.out (by kernel_rfl)) (fun _ _ _ h => h) (Or.inl ⟨by rfl, ?_⟩) ?_ ?_
                            rotate_left
                            · intro w'
                              go_simp
                              with_reducible rfl
                            rotate_left
                            · simp only [Act.put, List.setIfInBounds_toArray, List.set_cons_zero, List.set_cons_succ, i64_w, i32_w]
                              rfl
                            refine pure_ (i := 5) (N := some 75) (v := ?_) (a' := ?_) #[true, true, true, true, true, true, false, false, false, false, false, false, false, false] rfl rfl (any_of HT_.out (by kernel_rfl)) (fun _ _ _ h => h) (Or.inl ⟨by rfl, ?_⟩) ?_ ?_
                            rotate_left
                            · intro w'
                              go_simp
                              with_reducible rfl
                            rotate_left
                            · simp only [Act.put, List.setIfInBounds_toArray, List.set_cons_zero, List.set_cons_succ, i64_w, i32_w]
                              rfl
                            refine pure_ (i := 6) (N := some 76) (v := undef) (a' := ?_) #[true, true, true, true, true, true, true, false, false, false, false, false, false, false] rfl rfl (any_of HT_.out (by kernel_rfl)) (fun _ _ _ h => h) (Or.inr ⟨by rfl, rfl⟩) ?_ ?_
                            rotate_left
                            · simp only [Act.put, List.setIfInBounds_toArray, List.set_cons_zero, List.set_cons_succ, i64_w, i32_w]
                              rfl
                            refine pure_ (i := 7) (N := some 77) (v := undef) (a' := ?_) #[true, true, true, true, true, true, true, true, false, false, false, false, false, false] rfl rfl (any_of HT_.out (by kernel_rfl)) (fun _ _ _ h => h) (Or.inr ⟨by rfl, rfl⟩) ?_ ?_
                            rotate_left
                            · simp only [Act.put, List.setIfInBounds_toArray, List.set_cons_zero, List.set_cons_succ, i64_w, i32_w]
                              rfl
                            refine pure_ (i := 8) (N := some 78) (v := undef) (a' := ?_) #[true, true, true, true, true, true, true, true, true, false, false, false, false, false] rfl rfl (any_of HT_.out (by kernel_rfl)) (fun _ _ _ h => h) (Or.inr ⟨by rfl, rfl⟩) ?_ ?_
                            rotate_left
                            · simp only [Act.put, List.setIfInBounds_toArray, List.set_cons_zero, List.set_cons_succ, i64_w, i32_w]
                              rfl
                            refine pure_ (i := 9) (N := some 79) (v := undef) (a' := ?_) #[true, true, true, true, true, true, true, true, true, true, false, false, false, false] rfl rfl (any_of HT_.out (by kernel_rfl)) (fun _ _ _ h => h) (Or.inr ⟨by rfl, rfl⟩) ?_ ?_
                            rotate_left
                            · simp only [Act.put, List.setIfInBounds_toArray, List.set_cons_zero, List.set_cons_succ, i64_w, i32_w]
                              rfl
                            refine pure_ (i := 10) (N := some 80) (v := undef) (a' := ?_) #[true, true, true, true, true, true, true, true, true, true, true, false, false, false] rfl rfl (any_of HT_.out (by kernel_rfl)) (fun _ _ _ h => h) (Or.inr ⟨by rfl, rfl⟩) ?_ ?_
                            rotate_left
                            · simp only [Act.put, List.setIfInBounds_toArray, List.set_cons_zero, List.set_cons_succ, i64_w, i32_w]
                              rfl
                            refine pure_ (i := 11) (N := some 81) (v := undef) (a' := ?_) #[true, true, true, true, true, true, true, true, true, true, true, true, false, false] rfl rfl (any_of HT_.out (by kernel_rfl)) (fun _ _ _ h => h) (Or.inr ⟨by rfl, rfl⟩) ?_ ?_
                            rotate_left
                            · simp only [Act.put, List.setIfInBounds_toArray, List.set_cons_zero, List.set_cons_succ, i64_w, i32_w]
                              rfl
                            refine pure_ (i := 12) (N := some 82) (v := undef) (a' := ?_) #[true, true, true, true, true, true, true, true, true, true, true, true, true, false] rfl rfl (any_of HT_.out (by kernel_rfl)) (fun _ _ _ h => h) (Or.inr ⟨by rfl, rfl⟩) ?_ ?_
                            rotate_left
                            · simp only [Act.put, List.setIfInBounds_toArray, List.set_cons_zero, List.set_cons_succ, i64_w, i32_w]
                              rfl
                            refine pure_ (i := 13) (N := some 83) (v := ?_) (a' := ?_) #[true, true, true, true, true, true, true, true, true, true, true, true, true, true] rfl rfl (any_of HT_.out (by kernel_rfl)) (fun _ _ _ h => h) (Or.inl ⟨by rfl, ?_⟩) ?_ ?_
                            rotate_left
                            · intro w'
                              go_simp
                              with_reducible rfl
                            rotate_left
                            · simp only [Act.put, List.setIfInBounds_toArray, List.set_cons_zero, List.set_cons_succ, i64_w, i32_w]
                              rfl
                            refine done_ (done_of HT_.out (by kernel_rfl)) ?_
                            try go_wp2
                            go_roundg k3
                            case measure => have := HK1.out; have := HJ3.out; have := HK3.out; omega
                            case rel => exact ⟨(x3_1), (wrap64 (x4_1 + 1)), (by first | rfl | (simp; done) | (simp [*]; done)), H', ⟨by have := HK1.out; have := HJ3.out; have := HK3.out; omega⟩, ⟨by (with_reducible repeat (first | apply Kd.R_alloc | apply Kd.R_drewN | apply Kd.R_drew)); exact HO_3.out⟩, ⟨by repeat (first | (with_reducible first | exact HB.out | apply below_alloc | apply pw_below_drewN | apply below_drew1) | exact HB.out)⟩⟩
                · rw [if_neg c10] at H
                  exact absurd H (by simp)
        · rw [if_neg c3] at H
          exact absurd H (by simp)
      · rw [if_neg c2] at H
        have c2b0 : decide (x4_1 < (l0.length : Int)) = false := decide_eq_false c2
        clear c2
        obtain rfl := Option.some.inj H
        go_wp2
        go_ret
        exact ⟨_, by first | rfl | (simp [errW_none, errW_some] <;> rfl) | (simp [*, errW_none, errW_some] <;> rfl), by (with_reducible repeat (first | apply Kd.R_alloc | apply Kd.R_drewN | apply Kd.R_drew)); exact HO_3.out, by repeat (first | (with_reducible first | exact HB.out | apply below_alloc | apply pw_below_drewN | apply below_drew1) | exact HB.out)⟩

end Go.Proofs.YtanekljbehhjcaaDoor.PX

namespace Go.Proofs.YtanekljbehhjcaaDoor
open Go.RowKit Go.Proofs.YtanekljbehhjcaaDoorW.PrintWords Go.Proofs.YtanekljbehhjcaaDoorW.PrintMore Go.Proofs.YtanekljbehhjcaaDoor.PX

def shiftI (x : Int) (i : Nat) : Int := if x = -1 then -1 else (i : Int) + x
theorem index_l (l : List UInt8) (c : UInt8) (hl : l.length ≤ 9000000000000000000) : ∀ (d i : Nat), i + d = l.length →
    Ev (fun k => frisketref27_index.l0 k (bar l) (c.toNat : Int) (i : Int)) (shiftI (Lib.indexByte (l.drop i) c) i) := by
  intro d
  induction d with
  | zero =>
    intro i h
    refine Ev.step (fun k => by rw [frisketref27_index.l0]) ?_
    refine evNeg (by rw [bar_size]; omega) ?_
    rw [List.drop_eq_nil_of_le (by omega)]
    exact Ev.now _
  | succ d ih =>
    intro i h
    have hi : i < l.length := by omega
    refine Ev.step (fun k => by rw [frisketref27_index.l0]) ?_
    refine evPos (by rw [bar_size]; omega) (evPos (by omega) ?_)
    rw [bt_bar' l i hi, List.drop_eq_getElem_cons hi]
    have hcons : Lib.indexByte (l[i] :: l.drop (i + 1)) c = if l[i] == c then 0 else if Lib.indexByte (l.drop (i + 1)) c == -1 then -1 else Lib.indexByte (l.drop (i + 1)) c + 1 := rfl
    by_cases e : l[i] = c
    · refine evPos (by rw [e]) ?_
      rw [hcons, if_pos (by simpa using e)]
      exact evEq (by unfold shiftI; simp) (Ev.now (i : Int))
    · refine evNeg (fun h => e (UInt8.toNat_inj.1 (by omega))) ?_
      rw [hcons, if_neg (by simpa using e), w64 (by omega) (by omega), show ((i : Int) + 1) = ((i + 1 : Nat) : Int) from rfl]
      have h1 := ih (i + 1) (by omega)
      have h2 := Lib.indexByte_ge (l.drop (i + 1)) c
      refine evEq ?_ h1
      by_cases h3 : Lib.indexByte (l.drop (i + 1)) c = -1
      · rw [h3]; rfl
      · rw [if_neg (by simpa using h3)]
        unfold shiftI
        rw [if_neg h3, if_neg (by omega)]; omega
theorem index_ev (l : List UInt8) (c : UInt8) (hl : l.length ≤ 9000000000000000000) : Ev (fun k => frisketref27_index.f k (bar l) (c.toNat : Int)) (Lib.indexByte l c) := by
  unfold frisketref27_index.f
  refine evEq ?_ (index_l l c hl l.length 0 (by omega))
  rw [List.drop_zero]
  unfold shiftI
  by_cases h : Lib.indexByte l c = -1
  · rw [if_pos h, h]
  · rw [if_neg h]; omega

/-! ### decimal digits read -/
theorem dec_digit (m : Nat) : ∀ c ∈ Lib.decDigits m, 48 ≤ c.toNat ∧ c.toNat ≤ 57 := by
  induction m using Nat.strongRecOn with
  | _ m ih =>
    intro c hc
    rw [Lib.decDigits] at hc
    split at hc
    · rw [List.mem_singleton.1 hc]; simp; omega
    · rcases List.mem_append.1 hc with hc | hc
      · exact ih (m / 10) (by omega) c hc
      · rw [List.mem_singleton.1 hc]; simp; omega
theorem parse_app (l r : List UInt8) : ∀ acc, Lib.parseUint10 acc (l ++ r) = match Lib.parseUint10 acc l with | .ok u => Lib.parseUint10 u r | e => e := by
  induction l with
  | nil => intro acc; rfl
  | cons c l ih =>
    intro acc
    rw [List.cons_append]
    simp only [Lib.parseUint10]
    split
    · split
      · rfl
      · split
        · rfl
        · exact ih _
    · rfl
theorem parse_dec (m : Nat) (h : m ≤ 1000000000000) : Lib.parseUint10 0 (Lib.decDigits m) = .ok m := by
  induction m using Nat.strongRecOn with
  | _ m ih =>
    rw [Lib.decDigits]
    split
    · rename_i h1
      have e : (UInt8.ofNat (48 + m)).toNat = 48 + m := by simp; omega
      simp only [Lib.parseUint10, e]
      rw [if_pos (by omega), if_neg (by omega), if_neg (by omega)]
      congr 1; omega
    · rename_i h1
      have e : (UInt8.ofNat (48 + m % 10)).toNat = 48 + m % 10 := by simp; omega
      rw [parse_app, ih (m / 10) (by omega) (by omega)]
      simp only [Lib.parseUint10, e]
      rw [if_pos (by omega), if_neg (by omega), if_neg (by omega)]
      congr 1; omega
theorem atoi_dec (m : Nat) (h : m ≤ 1000000000000) : Lib.atoiAll (Lib.decDigits m) = .ok (m : Int) := by
  have h1 := dec_digit m
  have h2 := parse_dec m h
  have h3 : Lib.decDigits m ≠ [] := by rw [dec_front]; simp
  cases hl : Lib.decDigits m with
  | nil => exact absurd hl h3
  | cons c r =>
    rw [hl] at h1 h2
    have hc := h1 c List.mem_cons_self
    simp only [Lib.atoiAll]
    rw [if_neg (by omega)]
    have h4 : Lib.parseMag (c :: r) = .ok m := by unfold Lib.parseMag; rw [if_neg (by simp)]; exact h2
    rw [h4]
    simp only
    rw [if_neg (by omega), if_neg (by omega), if_neg (by omega)]
theorem page_good (p : List UInt8) (m : Nat) (hm : m ≤ 1000000) (h : p = Lib.decDigits m) : atoiB p = true ∧ atoiN p = m ∧ Lib.itoa (m : Int) = p := by
  subst h
  have := atoi_dec m (by omega)
  unfold atoiB atoiN
  rw [this]
  refine ⟨rfl, rfl, ?_⟩
  unfold Lib.itoa; rw [if_neg (by omega)]; rfl
theorem page_back (p : List UInt8) (h1 : Lib.itoa (atoiN p) = p) (h2 : 0 ≤ atoiN p) : p = Lib.decDigits (atoiN p).toNat := by
  have : Lib.itoa (atoiN p) = Lib.decDigits (atoiN p).toNat := by unfold Lib.itoa; rw [if_neg (by omega)]
  exact h1.symm.trans this

/-! ### the reference's digits -/
def refStep (s : Int × Bool) (b : UInt8) : Int × Bool := (mn (s.1 * 10 + ((b.toNat : Int) - 48) % 256) 1000000000, s.2 && (decide (48 ≤ (b.toNat : Int)) && decide ((b.toNat : Int) ≤ 57)))
theorem refStep_range (s : Int × Bool) (b : UInt8) (h : 0 ≤ s.1) : 0 ≤ (refStep s b).1 ∧ (refStep s b).1 ≤ 1000000000 := by
  unfold refStep mn
  simp only
  have := b.toNat_lt
  split <;> omega
theorem fold_dec (m : Nat) (h : m ≤ 1000000000) : (Lib.decDigits m).foldl refStep (0, true) = ((m : Int), true) := by
  induction m using Nat.strongRecOn with
  | _ m ih =>
    rw [Lib.decDigits]
    split
    · have e : (UInt8.ofNat (48 + m)).toNat = 48 + m := by simp; omega
      simp only [List.foldl_cons, List.foldl_nil, refStep, e, mn]
      rw [if_neg (by omega)]
      refine Prod.ext (by simp only; omega) ?_
      simp; omega
    · have e : (UInt8.ofNat (48 + m % 10)).toNat = 48 + m % 10 := by simp; omega
      rw [List.foldl_append, ih (m / 10) (by omega) (by omega)]
      simp only [List.foldl_cons, List.foldl_nil, refStep, e, mn]
      rw [if_neg (by omega)]
      refine Prod.ext (by simp only; omega) ?_
      simp; omega
end Go.Proofs.YtanekljbehhjcaaDoor

namespace Go.Proofs.YtanekljbehhjcaaDoor.PX
open Go.RowKit Go.Proofs.YtanekljbehhjcaaDoorW.PrintWords Go.Proofs.YtanekljbehhjcaaDoorW.PrintLast Go.Proofs.YtanekljbehhjcaaDoorW.PrintMore
attribute [local go_sem] max2_int min2_int max_two min_two max_three min_three max_four min_four   -- for this text's walks alone
set_option linter.unusedVariables false
set_option linter.unusedSimpArgs false

/-! ### frisketref07_Whole: function 31 -/
mutual
def frisketref07_Whole.j0 : Nat → ByteArray → Int → Int → Bool → Option (Int × Bool)
  | 0, _, _, _, _ => none
  | k + 1, x0, x4, x5, x13 => if x13 = true then (frisketref07_Whole.j1 k x0 x4 1) else (frisketref07_Whole.j1 k x0 x4 x5)
def frisketref07_Whole.j1 : Nat → ByteArray → Int → Int → Option (Int × Bool)
  | 0, _, _, _ => none
  | k + 1, x0, x4, x5 => frisketref07_Whole.l0 k x0 x4 x5 x5
def frisketref07_Whole.l0 : Nat → ByteArray → Int → Int → Int → Option (Int × Bool)
  | 0, _, _, _, _ => none
  | k + 1, x0, x4, x5, x6 => if x6 < (x0.size : Int) then (if 0 ≤ x6 then (if (bt x0 x6) < 48 then (some (0, false)) else (if (bt x0 x6) > 57 then (some (0, false)) else (if (wrap64 (x6 - x5)) ≥ 9 then (some (0, false)) else (frisketref07_Whole.l0 k x0 (wrap64 ((wrap64 (x4 * 10)) + (((bt x0 x6) - 48) % 256))) x5 (wrap64 (x6 + 1)))))) else (none)) else (if x5 = 1 then ((frisketref07_Signed.f k (wrap64 (-x4))).bind fun t186 => (some (wrap64 (-x4), (t186.toList == x0.toList)))) else ((frisketref07_Signed.f k x4).bind fun t187 => (some (x4, (t187.toList == x0.toList)))))
end
def frisketref07_Whole.f (k : Nat) (a0 : ByteArray) : Option (Int × Bool) := if a0.toList = ([] : List UInt8) then (frisketref07_Whole.j0 k a0 0 0 false) else (if 0 < (a0.size : Int) then (frisketref07_Whole.j0 k a0 0 0 ((bt a0 0) == 45)) else (none))
theorem frisketref07_Whole.mono_l : ∀ k, (∀ y0 y1 y2 y3, LeO (frisketref07_Whole.j0 k y0 y1 y2 y3) (frisketref07_Whole.j0 (k + 1) y0 y1 y2 y3)) ∧ (∀ y0 y1 y2, LeO (frisketref07_Whole.j1 k y0 y1 y2) (frisketref07_Whole.j1 (k + 1) y0 y1 y2)) ∧ (∀ y0 y1 y2 y3, LeO (frisketref07_Whole.l0 k y0 y1 y2 y3) (frisketref07_Whole.l0 (k + 1) y0 y1 y2 y3))
  | 0 => ⟨fun _ _ _ _ r h => by simp [frisketref07_Whole.j0] at h, fun _ _ _ r h => by simp [frisketref07_Whole.j1] at h, fun _ _ _ _ r h => by simp [frisketref07_Whole.l0] at h⟩
  | k + 1 => by
    obtain ⟨ih0, ih1, ih2⟩ := frisketref07_Whole.mono_l k
    refine ⟨?_, ?_, ?_⟩
    · intro y0 y1 y2 y3
      unfold frisketref07_Whole.j0
      repeat' first
      | (with_reducible exact ih0 _ _ _ _)
      | (with_reducible exact ih1 _ _ _)
      | (with_reducible exact ih2 _ _ _ _)
      | (with_reducible exact frisketref07_Signed.mono _ _)
      | (with_reducible exact LeO.refl _)
      | (with_reducible exact LeO.none _)
      | (with_reducible refine LeO.ite ?_ ?_)
      | (with_reducible refine LeO.bind ?_ (fun _ => ?_))
      | exact ih0 _ _ _ _
      | exact ih1 _ _ _
      | exact ih2 _ _ _ _
      | exact frisketref07_Signed.mono _ _
      | exact LeO.none _
      | refine LeO.ite ?_ ?_
      | refine LeO.bind ?_ (fun _ => ?_)
    · intro y0 y1 y2
      unfold frisketref07_Whole.j1
      repeat' first
      | (with_reducible exact ih0 _ _ _ _)
      | (with_reducible exact ih1 _ _ _)
      | (with_reducible exact ih2 _ _ _ _)
      | (with_reducible exact frisketref07_Signed.mono _ _)
      | (with_reducible exact LeO.refl _)
      | (with_reducible exact LeO.none _)
      | (with_reducible refine LeO.ite ?_ ?_)
      | (with_reducible refine LeO.bind ?_ (fun _ => ?_))
      | exact ih0 _ _ _ _
      | exact ih1 _ _ _
      | exact ih2 _ _ _ _
      | exact frisketref07_Signed.mono _ _
      | exact LeO.none _
      | refine LeO.ite ?_ ?_
      | refine LeO.bind ?_ (fun _ => ?_)
    · intro y0 y1 y2 y3
      unfold frisketref07_Whole.l0
      repeat' first
      | (with_reducible exact ih0 _ _ _ _)
      | (with_reducible exact ih1 _ _ _)
      | (with_reducible exact ih2 _ _ _ _)
      | (with_reducible exact frisketref07_Signed.mono _ _)
      | (with_reducible exact LeO.refl _)
      | (with_reducible exact LeO.none _)
      | (with_reducible refine LeO.ite ?_ ?_)
      | (with_reducible refine LeO.bind ?_ (fun _ => ?_))
      | exact ih0 _ _ _ _
      | exact ih1 _ _ _
      | exact ih2 _ _ _ _
      | exact frisketref07_Signed.mono _ _
      | exact LeO.none _
      | refine LeO.ite ?_ ?_
      | refine LeO.bind ?_ (fun _ => ?_)
theorem frisketref07_Whole.mono : ∀ a0 k, LeO (frisketref07_Whole.f k a0) (frisketref07_Whole.f (k + 1) a0) := by
  intro a0 k
  obtain ⟨ih0, ih1, ih2⟩ := frisketref07_Whole.mono_l k
  unfold frisketref07_Whole.f
  repeat' first
      | (with_reducible exact ih0 _ _ _ _)
      | (with_reducible exact ih1 _ _ _)
      | (with_reducible exact ih2 _ _ _ _)
      | (with_reducible exact frisketref07_Signed.mono _ _)
      | (with_reducible exact LeO.refl _)
      | (with_reducible exact LeO.none _)
      | (with_reducible refine LeO.ite ?_ ?_)
      | (with_reducible refine LeO.bind ?_ (fun _ => ?_))
      | exact ih0 _ _ _ _
      | exact ih1 _ _ _
      | exact ih2 _ _ _ _
      | exact frisketref07_Signed.mono _ _
      | exact LeO.none _
      | refine LeO.ite ?_ ?_
      | refine LeO.bind ?_ (fun _ => ?_)
set_option maxHeartbeats 8000000 in
set_option maxRecDepth 100000 in
theorem frisketref07_Whole.calls (k : Nat) (a0 : ByteArray) (r1 : Int) (r2 : Bool) (w : World) (h : frisketref07_Whole.f k a0 = some (r1, r2)) :
    Calls Tryd.prog 31 #[.string a0] w fun e w' => e = .returned (.tuple #[.int .i64 r1, .bool r2]) ∧ Below w.heap.size w w' := by
  have HB := Aside0.mk (Below.refl w.heap.size w)
  have H : (if a0.toList = ([] : List UInt8) then (frisketref07_Whole.j0 k a0 0 0 false) else (if 0 < (a0.size : Int) then (frisketref07_Whole.j0 k a0 0 0 ((bt a0 0) == 45)) else (none))) = some (r1, r2) := h
  clear h
  have HC2 := Aside0.mk H
  clear H
  go_enter Tryd.func31, Tryd.ntmps31
  go_upto_region 2 with (fail)
  go_cut [13] (fun v13 wc => ∃ (kq : Nat) (x13_1 : Bool), v13 = .bool x13_1 ∧ Aside0 (frisketref07_Whole.j0 kq a0 0 0 x13_1 = some (r1, r2)) ∧ Aside0 (kq ≤ k) ∧ Aside0 (Below w.heap.size w wc))
  case first =>
    have H := HC2.out
    clear HC2
    by_cases c3 : a0.toList = ([] : List UInt8)
    · rw [if_pos c3] at H
      have c3b0 : (a0.toList == ([] : List UInt8)) = true := beq_iff_eq.mpr c3
      have c3e0 : (!(a0).toList.isEmpty) = false := by rw [List.isEmpty_iff.mpr c3]; rfl
      have c3b1 : (a0.toList != ([] : List UInt8)) = false := bne_eq_false_iff_eq.mpr c3
      clear c3
      (first | rw [c3b0] | rw [c3e0] | (simp only [i64_w, i32_w]; rw [c3b0]) | skip)
      have H' := Aside0.mk H
      clear H
      go_wp2
      go_meet
      case rel => exact ⟨_, (false), (by first | rfl | (simp; done) | (simp [*]; done)), H', ⟨by first | omega | exact Nat.le_refl _⟩, ⟨by repeat (first | (with_reducible first | exact HB.out | apply below_alloc | apply pw_below_drewN | apply below_drew1) | exact HB.out)⟩⟩
    · rw [if_neg c3] at H
      have c3b0 : (a0.toList == ([] : List UInt8)) = false := beq_eq_false_iff_ne.mpr c3
      have c3e0 : (!(a0).toList.isEmpty) = true := by rw [List.isEmpty_eq_false_iff.mpr c3]; rfl
      have c3b1 : (a0.toList != ([] : List UInt8)) = true := bne_iff_ne.mpr c3
      (first | rw [c3b0] | rw [c3e0] | (simp only [i64_w, i32_w]; rw [c3b0]) | skip)
      by_cases c4 : 0 < (a0.size : Int)
      · rw [if_pos c4] at H
        have c4b0 : decide (0 < (a0.size : Int)) = true := decide_eq_true c4
        have c4b1 : decide (0 < a0.size) = true := decide_eq_true (by omega)
        clear c4
        have H' := Aside0.mk H
        clear H
        have p5 : 0 ≤ (0 : Int) := (by omega)
        have q5 : 0 < a0.size := (by have : (0 : Int) < (a0.size : Int) := of_decide_eq_true (by first | (with_reducible assumption) | assumption); omega)
        have hx5 : ∀ h : 0 < a0.size, ((a0[0]'h).toNat : Int) = bt a0 0 := bt_at a0 0
        clear p5
        have qi5 : (0 < (a0.size : Int)) = True := eq_true (of_decide_eq_true (by first | (with_reducible assumption) | assumption))
        replace q5 := eq_true q5
        go_wp2
        go_meet
        case rel => exact ⟨_, (((bt a0 0) == 45)), (by first | rfl | (simp; done) | (simp [*]; done)), H', ⟨by first | omega | exact Nat.le_refl _⟩, ⟨by repeat (first | (with_reducible first | exact HB.out | apply below_alloc | apply pw_below_drewN | apply below_drew1) | exact HB.out)⟩⟩
      · rw [if_neg c4] at H
        exact absurd H (by simp)
  case rest =>
    clear HC2
    try clear p2
    try clear c3
    try clear c3b0
    try clear c3b1
    try clear c4
    try clear c4b0
    try clear c4b1
    try clear p5
    try clear q5
    try clear hx5
    try clear qi5
    try clear p5
    try clear q5
    obtain ⟨kq, x13_1, rfl, HA, HJ1, HB⟩ := hcut
    cases kq with
    | zero => exact absurd HA.out (by simp [frisketref07_Whole.j0])
    | succ kj1 =>
      have H := HA.out
      clear HA
      simp only [frisketref07_Whole.j0] at H
      have HC6 := Aside0.mk H
      clear H
      go_upto_if 13 with (fail)
      go_cut [5] (fun v5 wc => ∃ (kq : Nat) (x5_5 : Int), v5 = .int .i64 x5_5 ∧ Aside0 (frisketref07_Whole.j1 kq a0 0 x5_5 = some (r1, r2)) ∧ Aside0 (kq ≤ kj1) ∧ Aside0 (Below w.heap.size w wc))
      case first =>
        have H := HC6.out
        clear HC6
        by_cases c7 : x13_1 = true
        · subst c7
          have H1 : (frisketref07_Whole.j1 kj1 a0 0 1) = some (r1, r2) := by rw [if_pos rfl] at H; exact H
          clear H
          have H := H1
          clear H1
          have H' := Aside0.mk H
          clear H
          go_wp2
          go_meet
          case rel => exact ⟨_, (1), (by first | rfl | (simp; done) | (simp [*]; done)), H', ⟨by have := HJ1.out; first | omega | exact Nat.le_refl _⟩, ⟨by repeat (first | (with_reducible first | exact HB.out | apply below_alloc | apply pw_below_drewN | apply below_drew1) | exact HB.out)⟩⟩
        · replace c7 := Bool.eq_false_iff.mpr c7
          subst c7
          have H1 : (frisketref07_Whole.j1 kj1 a0 0 0) = some (r1, r2) := by rw [if_neg (show ¬ (false = true) by decide)] at H; exact H
          clear H
          have H := H1
          clear H1
          have H' := Aside0.mk H
          clear H
          go_wp2
          go_meet
          case rel => exact ⟨_, (0), (by first | rfl | (simp; done) | (simp [*]; done)), H', ⟨by have := HJ1.out; first | omega | exact Nat.le_refl _⟩, ⟨by repeat (first | (with_reducible first | exact HB.out | apply below_alloc | apply pw_below_drewN | apply below_drew1) | exact HB.out)⟩⟩
      case rest =>
        clear HC6
        try clear p2
        try clear c3
        try clear c3b0
        try clear c3b1
        try clear c4
        try clear c4b0
        try clear c4b1
        try clear p5
        try clear q5
        try clear hx5
        try clear qi5
        try clear c7
        try clear p2
        try clear p5
        try clear q5
        obtain ⟨kq, x5_5, rfl, HA, HJ5, HB⟩ := hcut
        cases kq with
        | zero => exact absurd HA.out (by simp [frisketref07_Whole.j1])
        | succ kj5 =>
          have H := HA.out
          clear HA
          simp only [frisketref07_Whole.j1] at H
          have H' := Aside0.mk H
          clear H
          go_wp2
          go_loopg [4, 6] kj5 (fun kq v4 v6 w' => ∃ (x4_3 : Int) (x6_3 : Int), v4 = .int .i64 x4_3 ∧ v6 = .int .i64 x6_3 ∧ Aside0 (frisketref07_Whole.l0 kq a0 x4_3 x5_5 x6_3 = some (r1, r2)) ∧ Aside0 (kq ≤ kj5) ∧ Aside0 (Below w.heap.size w w'))
          case atStart => exact ⟨(0), (x5_5), (by first | rfl | (simp; done) | (simp [*]; done)), (by first | rfl | (simp; done) | (simp [*]; done)), H', ⟨Nat.le_refl _⟩, ⟨by repeat (first | (with_reducible first | exact HB.out | apply below_alloc | apply pw_below_drewN | apply below_drew1) | exact HB.out)⟩⟩
          case round =>
            clear H'
            try clear p2
            try clear c3
            try clear c3b0
            try clear c3b1
            try clear c4
            try clear c4b0
            try clear c4b1
            try clear p5
            try clear q5
            try clear hx5
            try clear qi5
            try clear c7
            try clear p2
            try clear p5
            try clear q5
            obtain ⟨x4_3, x6_3, rfl, rfl, HA, HK3, HB⟩ := hrel
            cases gk with
            | zero => exact absurd HA.out (by simp [frisketref07_Whole.l0])
            | succ k3 =>
              have H := HA.out
              clear HA
              simp only [frisketref07_Whole.l0] at H
              by_cases c8 : x6_3 < (a0.size : Int)
              · rw [if_pos c8] at H
                have c8b0 : decide (x6_3 < (a0.size : Int)) = true := decide_eq_true c8
                clear c8
                by_cases c9 : 0 ≤ x6_3
                · rw [if_pos c9] at H
                  have c9b0 : decide (0 ≤ x6_3) = true := decide_eq_true c9
                  clear c9
                  by_cases c11 : (bt a0 x6_3) < 48
                  · rw [if_pos c11] at H
                    have c11b0 : decide ((bt a0 x6_3) < 48) = true := decide_eq_true c11
                    clear c11
                    simp only [Option.some.injEq, Prod.mk.injEq] at H
                    obtain ⟨rfl, rfl⟩ := H
                    have p10 : 0 ≤ (x6_3 : Int) := of_decide_eq_true (by first | (with_reducible assumption) | assumption)
                    have q10 : x6_3 < (a0.size : Int) := of_decide_eq_true (by first | (with_reducible assumption) | assumption)
                    have hx10 := bt_at a0 x6_3
                    replace p10 := eq_true p10
                    replace q10 := eq_true q10
                    go_wp2
                    go_ret2
                    exact ⟨by first | rfl | (simp [errW_none, errW_some] <;> rfl) | (simp [*, errW_none, errW_some] <;> rfl), by repeat (first | (with_reducible first | exact HB.out | apply below_alloc | apply pw_below_drewN | apply below_drew1) | exact HB.out)⟩
                  · rw [if_neg c11] at H
                    have c11b0 : decide ((bt a0 x6_3) < 48) = false := decide_eq_false c11
                    clear c11
                    by_cases c13 : (bt a0 x6_3) > 57
                    · rw [if_pos c13] at H
                      have c13b0 : decide (57 < (bt a0 x6_3)) = true := decide_eq_true c13
                      clear c13
                      simp only [Option.some.injEq, Prod.mk.injEq] at H
                      obtain ⟨rfl, rfl⟩ := H
                      have p10 : 0 ≤ (x6_3 : Int) := of_decide_eq_true (by first | (with_reducible assumption) | assumption)
                      have q10 : x6_3 < (a0.size : Int) := of_decide_eq_true (by first | (with_reducible assumption) | assumption)
                      have hx10 := bt_at a0 x6_3
                      replace p10 := eq_true p10
                      replace q10 := eq_true q10
                      have p12 : 0 ≤ (x6_3 : Int) := of_decide_eq_true (by first | (with_reducible assumption) | assumption)
                      have q12 : x6_3 < (a0.size : Int) := of_decide_eq_true (by first | (with_reducible assumption) | assumption)
                      have hx12 := bt_at a0 x6_3
                      replace p12 := eq_true p12
                      replace q12 := eq_true q12
                      go_wp2
                      go_ret2
                      exact ⟨by first | rfl | (simp [errW_none, errW_some] <;> rfl) | (simp [*, errW_none, errW_some] <;> rfl), by repeat (first | (with_reducible first | exact HB.out | apply below_alloc | apply pw_below_drewN | apply below_drew1) | exact HB.out)⟩
                    · rw [if_neg c13] at H
                      have c13b0 : decide (57 < (bt a0 x6_3)) = false := decide_eq_false c13
                      clear c13
                      by_cases c14 : (wrap64 (x6_3 - x5_5)) ≥ 9
                      · rw [if_pos c14] at H
                        have c14b0 : decide (9 ≤ (wrap64 (x6_3 - x5_5))) = true := decide_eq_true c14
                        clear c14
                        simp only [Option.some.injEq, Prod.mk.injEq] at H
                        obtain ⟨rfl, rfl⟩ := H
                        have p10 : 0 ≤ (x6_3 : Int) := of_decide_eq_true (by first | (with_reducible assumption) | assumption)
                        have q10 : x6_3 < (a0.size : Int) := of_decide_eq_true (by first | (with_reducible assumption) | assumption)
                        have hx10 := bt_at a0 x6_3
                        replace p10 := eq_true p10
                        replace q10 := eq_true q10
                        have p12 : 0 ≤ (x6_3 : Int) := of_decide_eq_true (by first | (with_reducible assumption) | assumption)
                        have q12 : x6_3 < (a0.size : Int) := of_decide_eq_true (by first | (with_reducible assumption) | assumption)
                        have hx12 := bt_at a0 x6_3
                        replace p12 := eq_true p12
                        replace q12 := eq_true q12
                        go_wp2
                        go_ret2
                        exact ⟨by first | rfl | (simp [errW_none, errW_some] <;> rfl) | (simp [*, errW_none, errW_some] <;> rfl), by repeat (first | (with_reducible first | exact HB.out | apply below_alloc | apply pw_below_drewN | apply below_drew1) | exact HB.out)⟩
                      · rw [if_neg c14] at H
                        have c14b0 : decide (9 ≤ (wrap64 (x6_3 - x5_5))) = false := decide_eq_false c14
                        clear c14
                        have H' := Aside0.mk H
                        clear H
                        have p10 : 0 ≤ (x6_3 : Int) := of_decide_eq_true (by first | (with_reducible assumption) | assumption)
                        have q10 : x6_3 < (a0.size : Int) := of_decide_eq_true (by first | (with_reducible assumption) | assumption)
                        have hx10 := bt_at a0 x6_3
                        replace p10 := eq_true p10
                        replace q10 := eq_true q10
                        have p12 : 0 ≤ (x6_3 : Int) := of_decide_eq_true (by first | (with_reducible assumption) | assumption)
                        have q12 : x6_3 < (a0.size : Int) := of_decide_eq_true (by first | (with_reducible assumption) | assumption)
                        have hx12 := bt_at a0 x6_3
                        replace p12 := eq_true p12
                        replace q12 := eq_true q12
                        have p15 : 0 ≤ (x6_3 : Int) := of_decide_eq_true (by first | (with_reducible assumption) | assumption)
                        have q15 : x6_3 < (a0.size : Int) := of_decide_eq_true (by first | (with_reducible assumption) | assumption)
                        have hx15 := bt_at a0 x6_3
                        replace p15 := eq_true p15
                        replace q15 := eq_true q15
                        go_wp2
                        go_roundg k3
                        case measure => have := HJ1.out; have := HJ5.out; have := HK3.out; omega
                        case rel => exact ⟨(wrap64 ((wrap64 (x4_3 * 10)) + (((bt a0 x6_3) - 48) % 256))), (wrap64 (x6_3 + 1)), (by first | rfl | (simp; done) | (simp [*]; done)), (by first | rfl | (simp; done) | (simp [*]; done)), H', ⟨by have := HJ1.out; have := HJ5.out; have := HK3.out; omega⟩, ⟨by repeat (first | (with_reducible first | exact HB.out | apply below_alloc | apply pw_below_drewN | apply below_drew1) | exact HB.out)⟩⟩
                · rw [if_neg c9] at H
                  exact absurd H (by simp)
              · rw [if_neg c8] at H
                have c8b0 : decide (x6_3 < (a0.size : Int)) = false := decide_eq_false c8
                clear c8
                by_cases c16 : x5_5 = 1
                · rw [if_pos c16] at H
                  have c16b0 : (x5_5 == 1) = true := beq_iff_eq.mpr c16
                  have c16b1 : (x5_5 != 1) = false := bne_eq_false_iff_eq.mpr c16
                  clear c16
                  replace H := Option.bind_eq_some_iff.mp H
                  obtain ⟨t186, A170, H⟩ := H
                  replace H : (some (wrap64 (-x4_3), (t186.toList == a0.toList))) = some (r1, r2) := H
                  have A17 := Aside0.mk A170
                  clear A170
                  simp only [Option.some.injEq, Prod.mk.injEq] at H
                  obtain ⟨rfl, rfl⟩ := H
                  go_wp2_with (first | ((with_reducible refine gate_callee (f := 45) rfl ?_); refine goesL_ (some 51) rfl rfl Tryd.func45 (by kernel_rfl) rfl #[.int .i64 (wrap64 (-x4_3))] rfl (by (try simp only [List.map_toArray, List.map_cons, List.map_nil]); first | done | rfl | (simp only [List.length_drop, List.length_take]; rfl)) ?_; (with_reducible refine (frisketref07_Signed.calls k3 (wrap64 (-x4_3)) t186 _ A17.out).mono ?_); rintro e w18 ⟨rfl, hb⟩; refine ⟨_, rfl, ?_⟩; have n0_ := Aside0.mk (below_step (by repeat (first | (with_reducible first | exact HB.out | apply below_alloc | apply pw_below_drewN | apply below_drew1) | exact HB.out)) hb); clear HB; have HB := n0_; clear n0_; (try clear hb); (try clear hb2); (try clear hk); (try clear hi)))
                  go_ret2
                  exact ⟨by first | rfl | (simp [errW_none, errW_some] <;> rfl) | (simp [*, errW_none, errW_some] <;> rfl), by repeat (first | (with_reducible first | exact HB.out | apply below_alloc | apply pw_below_drewN | apply below_drew1) | exact HB.out)⟩
                · rw [if_neg c16] at H
                  have c16b0 : (x5_5 == 1) = false := beq_eq_false_iff_ne.mpr c16
                  have c16b1 : (x5_5 != 1) = true := bne_iff_ne.mpr c16
                  replace H := Option.bind_eq_some_iff.mp H
                  obtain ⟨t187, A190, H⟩ := H
                  replace H : (some (x4_3, (t187.toList == a0.toList))) = some (r1, r2) := H
                  have A19 := Aside0.mk A190
                  clear A190
                  simp only [Option.some.injEq, Prod.mk.injEq] at H
                  obtain ⟨rfl, rfl⟩ := H
                  go_wp2_with (first | ((with_reducible refine gate_callee (f := 45) rfl ?_); refine goesL_ (some 51) rfl rfl Tryd.func45 (by kernel_rfl) rfl #[.int .i64 x4_3] rfl (by (try simp only [List.map_toArray, List.map_cons, List.map_nil]); first | done | rfl | (simp only [List.length_drop, List.length_take]; rfl)) ?_; (with_reducible refine (frisketref07_Signed.calls k3 x4_3 t187 _ A19.out).mono ?_); rintro e w20 ⟨rfl, hb⟩; refine ⟨_, rfl, ?_⟩; have n0_ := Aside0.mk (below_step (by repeat (first | (with_reducible first | exact HB.out | apply below_alloc | apply pw_below_drewN | apply below_drew1) | exact HB.out)) hb); clear HB; have HB := n0_; clear n0_; (try clear hb); (try clear hb2); (try clear hk); (try clear hi)))
                  go_ret2
                  exact ⟨by first | rfl | (simp [errW_none, errW_some] <;> rfl) | (simp [*, errW_none, errW_some] <;> rfl), by repeat (first | (with_reducible first | exact HB.out | apply below_alloc | apply pw_below_drewN | apply below_drew1) | exact HB.out)⟩

end Go.Proofs.YtanekljbehhjcaaDoor.PX

namespace Go.Proofs.YtanekljbehhjcaaDoor
open Go.RowKit Go.Proofs.YtanekljbehhjcaaDoorW.PrintWords Go.Proofs.YtanekljbehhjcaaDoorW.PrintMore Go.Proofs.YtanekljbehhjcaaDoor.PX

/-- A text cut at each byte b. -/
def segs (b : UInt8) : List UInt8 → List (List UInt8)
  | [] => [[]]
  | c :: r => if c = b then [] :: segs b r else (c :: (segs b r).headD []) :: (segs b r).tail
def glueH (p : List UInt8) (S : List (List UInt8)) : List (List UInt8) := (p ++ S.headD []) :: S.tail
theorem segs_ne (b : UInt8) (l : List UInt8) : segs b l ≠ [] := by
  cases l with
  | nil => simp [segs]
  | cons c r => unfold segs; split <;> simp
theorem glueH_nil {S : List (List UInt8)} (h : S ≠ []) : glueH [] S = S := by
  cases S with
  | nil => exact (h rfl).elim
  | cons a r => rfl
theorem segs_at (b : UInt8) (r : List UInt8) : segs b (b :: r) = [] :: segs b r := by simp [segs]
theorem segs_off (b c : UInt8) (r : List UInt8) (h : c ≠ b) : segs b (c :: r) = glueH [c] (segs b r) := by simp [segs, h, glueH]
theorem segs_len (b : UInt8) (l : List UInt8) : (segs b l).length ≤ l.length + 1 := by
  induction l with
  | nil => simp [segs]
  | cons c r ih => unfold segs; split <;> simp <;> omega
theorem segs_all (b : UInt8) (l : List UInt8) : ∀ p ∈ segs b l, p.length ≤ l.length := by
  induction l with
  | nil => intro p h; simp [segs] at h; simp [h]
  | cons c r ih =>
    intro p h
    by_cases hc : c = b
    · subst hc
      rw [segs_at] at h
      rcases List.mem_cons.1 h with rfl | h
      · simp
      · have := ih p h; simp; omega
    · rw [segs_off b c r hc] at h
      have hne := segs_ne b r
      generalize segs b r = S at h ih hne
      cases S with
      | nil => exact (hne rfl).elim
      | cons a S =>
        simp [glueH] at h
        rcases h with rfl | h
        · have := ih a (by simp); simp; omega
        · have := ih p (by simp [h]); simp; omega
theorem cut_l (s : List UInt8) (b : UInt8) (hs : s.length ≤ 1000000) : ∀ (d i fr : Nat) (acc : List ByteArray), i + d = s.length → fr ≤ i → acc.length ≤ i →
    Ev (fun k => frisketref07_Cut.l0 k (bar s) (b.toNat : Int) acc (fr : Int) (i : Int)) (acc ++ (glueH ((s.take i).drop fr) (segs b (s.drop i))).map bar) := by
  intro d
  induction d with
  | zero =>
    intro i fr acc h hf ha
    obtain rfl : i = s.length := by omega
    have h1 : ¬ ((s.length : Int) < ((bar s).size : Int)) := by rw [bar_size]; omega
    have h2 : (0 : Int) ≤ (fr : Int) := by omega
    have h3 : (fr : Int) ≤ ((bar s).size : Int) := by rw [bar_size]; omega
    have h4 : acc.length < 8796093022208 := by omega
    refine Ev.step (fun k => by rw [frisketref07_Cut.l0]) (evNeg h1 (evPos h2 (evPos h3 (evPos h4 ?_))))
    rw [bar_size, Int.toNat_natCast, bar_extract, List.drop_length]
    simp only [segs, glueH, List.headD_cons, List.append_nil, List.tail_cons, List.map_cons, List.map_nil]
    exact Ev.now _
  | succ d ih =>
    intro i fr acc h hf ha
    have hi : i < s.length := by omega
    have h1 : (i : Int) < ((bar s).size : Int) := by rw [bar_size]; omega
    have h2 : (0 : Int) ≤ (i : Int) := by omega
    have h3 : (0 : Int) ≤ (fr : Int) := by omega
    have h4 : (fr : Int) ≤ (i : Int) := by omega
    have h5 : (i : Int) ≤ ((bar s).size : Int) := by omega
    have h6 : acc.length < 8796093022208 := by omega
    have e1 : wrap64 ((i : Int) + 1) = ((i + 1 : Nat) : Int) := by rw [w64 (by omega) (by omega)]; rfl
    have hd : s.drop i = s[i] :: s.drop (i + 1) := List.drop_eq_getElem_cons hi
    have i1 : i + 1 + d = s.length := by omega
    by_cases hb : s[i] = b
    · have k1 := ih (i + 1) (i + 1) (acc ++ [bar ((s.take i).drop fr)]) i1 (Nat.le_refl _) (by simp; omega)
      rw [show (s.take (i + 1)).drop (i + 1) = [] from List.drop_eq_nil_of_le (by rw [List.length_take]; omega), glueH_nil (segs_ne _ _)] at k1
      have hbt : ((s[i]).toNat : Int) = (b.toNat : Int) := by rw [hb]
      refine Ev.step (fun k => by rw [frisketref07_Cut.l0]) ?_
      rw [bt_bar' s i hi, e1, Int.toNat_natCast, Int.toNat_natCast, bar_extract]
      refine evPos h1 (evPos h2 (evPos hbt (evPos h3 (evPos h4 (evPos h5 (evPos h6 ?_))))))
      rw [hd, hb, segs_at]
      rw [List.append_assoc] at k1
      simpa [glueH] using k1
    · have k1 := ih (i + 1) fr acc i1 (by omega) (by omega)
      have hbt : ¬ ((s[i]).toNat : Int) = (b.toNat : Int) := fun e => hb (UInt8.toNat_inj.1 (by omega))
      refine Ev.step (fun k => by rw [frisketref07_Cut.l0]) ?_
      rw [bt_bar' s i hi, e1]
      refine evPos h1 (evPos h2 (evNeg hbt ?_))
      rw [hd, segs_off b _ _ hb]
      have e2 : (s.take (i + 1)).drop fr = (s.take i).drop fr ++ [s[i]] := by
        rw [List.take_succ_eq_append_getElem hi, List.drop_append_of_le_length (by simp; omega)]
      rw [e2] at k1
      simpa [glueH] using k1
theorem cut_ev (s : List UInt8) (b : UInt8) (hs : s.length ≤ 1000000) : Ev (fun k => frisketref07_Cut.f k (bar s) (b.toNat : Int)) ((segs b s).map bar) := by
  have := cut_l s b hs s.length 0 0 [] (by omega) (Nat.le_refl _) (Nat.le_refl _)
  simp only [List.take_zero, List.drop_nil, List.nil_append, List.drop_zero, glueH_nil (segs_ne _ _)] at this
  exact this

/-! ### A whole number -/
/-- The digits from place j on; n stands already. -/
def wl : List UInt8 → Nat → Int → Option Int
  | [], _, n => some n
  | c :: r, j, n => if c.toNat < 48 ∨ 57 < c.toNat ∨ 9 ≤ j then none else wl r (j + 1) (n * 10 + ((c.toNat : Int) - 48))
theorem wl_cons (c : UInt8) (r : List UInt8) (j : Nat) (n : Int) : wl (c :: r) j n = if c.toNat < 48 ∨ 57 < c.toNat ∨ 9 ≤ j then none else wl r (j + 1) (n * 10 + ((c.toNat : Int) - 48)) := rfl
theorem wl_app (l r : List UInt8) : ∀ j n, wl (l ++ r) j n = (wl l j n).bind fun u => wl r (j + l.length) u := by
  induction l with
  | nil => intro j n; rfl
  | cons c l ih =>
    intro j n
    rw [List.cons_append]
    simp only [wl]
    split
    · rfl
    · rw [ih, List.length_cons]; congr 1; funext u; congr 1; omega
theorem nDigits_le : ∀ (k n : Nat), n < 10 ^ (k + 1) → Lib.nDigits n ≤ k + 1 := by
  intro k
  induction k with
  | zero => intro n h; rw [Lib.nDigits_small (by simpa using h)]; omega
  | succ k ih =>
    intro n h
    rw [Lib.nDigits]
    split
    · omega
    · exact Nat.succ_le_succ (ih (n / 10) (by rw [Nat.pow_succ] at h; omega))
theorem wl_dec (m : Nat) (h : m < 1000000000) : wl (Lib.decDigits m) 0 0 = some (m : Int) := by
  induction m using Nat.strongRecOn with
  | _ m ih =>
    have hl := nDigits_le 7 (m / 10) (by omega)
    rw [Lib.decDigits]
    split
    · rename_i h1
      have e : (UInt8.ofNat (48 + m)).toNat = 48 + m := by simp; omega
      simp only [wl, e]
      rw [if_neg (by omega)]
      congr 1; omega
    · rename_i h1
      have e : (UInt8.ofNat (48 + m % 10)).toNat = 48 + m % 10 := by simp; omega
      rw [wl_app, ih (m / 10) (by omega) (by omega), Lib.decDigits_length]
      simp only [Option.bind_some, wl, e]
      rw [if_neg (by omega)]
      congr 1; omega
/-- What Whole answers. -/
def wholeOf (s : List UInt8) : Int × Bool :=
  if s.head? = some 45 then
    match wl s.tail 0 0 with
    | none => (0, false)
    | some m => (-m, Lib.itoa (-m) == s)
  else
    match wl s 0 0 with
    | none => (0, false)
    | some m => (m, Lib.itoa m == s)
theorem pow9 {k : Nat} (h : k ≤ 9) : (10 : Int) ^ k ≤ 1000000000 := by
  match k, h with
  | 0, _ => decide
  | 1, _ => decide
  | 2, _ => decide
  | 3, _ => decide
  | 4, _ => decide
  | 5, _ => decide
  | 6, _ => decide
  | 7, _ => decide
  | 8, _ => decide
  | 9, _ => decide
  | k + 10, h => omega
theorem whole_l (s : List UInt8) (at_ : Nat) (hat : at_ ≤ 1) : ∀ (d i : Nat) (n : Int), i + d = s.length → at_ ≤ i → i ≤ at_ + 9 → 0 ≤ n → n < 10 ^ (i - at_) →
    Ev (fun k => frisketref07_Whole.l0 k (bar s) n (at_ : Int) (i : Int)) (match wl (s.drop i) (i - at_) n with
      | none => (0, false)
      | some m => if at_ = 1 then (-m, Lib.itoa (-m) == s) else (m, Lib.itoa m == s)) := by
  intro d
  induction d with
  | zero =>
    intro i n h hi h9 h0 h1
    obtain rfl : i = s.length := by omega
    have hp : (10 : Int) ^ (s.length - at_) ≤ 1000000000 := pow9 (by omega)
    have k1 : ¬ ((s.length : Int) < ((bar s).size : Int)) := by rw [bar_size]; omega
    have e1 : wrap64 (-n) = -n := w64 (by omega) (by omega)
    have g1 := signed_ev n (by omega) (by omega)
    have g2 := signed_ev (-n) (by omega) (by omega)
    have hw : wl (s.drop s.length) (s.length - at_) n = some n := by rw [List.drop_length]; rfl
    rw [hw]
    clear hw
    by_cases ha : at_ = 1
    · have k2 : (at_ : Int) = 1 := by omega
      have hm : (match some n with | none => ((0 : Int), false) | some m => if at_ = 1 then (-m, Lib.itoa (-m) == s) else (m, Lib.itoa m == s)) = (-n, Lib.itoa (-n) == s) := by simp only; rw [if_pos ha]
      rw [hm]
      clear hm hp h1
      refine Ev.step (fun k => by rw [frisketref07_Whole.l0]) (evNeg k1 ?_)
      rw [e1]
      refine evPos k2 (Ev.bind g2 ?_)
      rw [bar_toList, bar_toList]
      exact Ev.now _
    · have k2 : ¬ (at_ : Int) = 1 := by omega
      have hm : (match some n with | none => ((0 : Int), false) | some m => if at_ = 1 then (-m, Lib.itoa (-m) == s) else (m, Lib.itoa m == s)) = (n, Lib.itoa n == s) := by simp only; rw [if_neg ha]
      rw [hm]
      clear hm hp h1
      refine Ev.step (fun k => by rw [frisketref07_Whole.l0]) (evNeg k1 ?_)
      refine evNeg k2 (Ev.bind g1 ?_)
      rw [bar_toList, bar_toList]
      exact Ev.now _
  | succ d ih =>
    intro i n h hi h9 h0 h1
    have hi2 : i < s.length := by omega
    have hb := (s[i]).toNat_lt
    have hpw : ∀ x : Int, x < (10 : Int) ^ (i - at_) * 10 → x < (10 : Int) ^ (i + 1 - at_) := fun x hx => by
      have e : i + 1 - at_ = (i - at_) + 1 := by omega
      rw [e, Int.pow_succ]
      exact hx
    have hp : (10 : Int) ^ (i - at_) ≤ 1000000000 := pow9 (by omega)
    generalize (10 : Int) ^ (i - at_) = B at h1 hp hpw
    have k1 : (i : Int) < ((bar s).size : Int) := by rw [bar_size]; omega
    have k2 : (0 : Int) ≤ (i : Int) := by omega
    have E1 := Lib.hid (show wrap64 ((i : Int) - (at_ : Int)) = ((i - at_ : Nat) : Int) from by rw [w64 (by omega) (by omega)]; omega)
    have E2 := Lib.hid (show wrap64 ((i : Int) + 1) = ((i + 1 : Nat) : Int) from by rw [w64 (by omega) (by omega)]; rfl)
    have E3 := Lib.hid (show wrap64 ((wrap64 (n * 10)) + (((s[i].toNat : Int) - 48) % 256)) = n * 10 + ((s[i].toNat : Int) - 48) % 256 from by rw [w64 (x := n * 10) (by omega) (by omega), w64 (by omega) (by omega)])
    have hd : s.drop i = s[i] :: s.drop (i + 1) := List.drop_eq_getElem_cons hi2
    have k4 : (48 : Int) ≤ s[i].toNat → (s[i].toNat : Int) ≤ 57 → ((s[i].toNat : Int) - 48) % 256 = (s[i].toNat : Int) - 48 := fun _ _ => by omega
    have i1 : i + 1 + d = s.length := by omega
    have i2 : i + 1 - at_ = i - at_ + 1 := by omega
    have hunf := wl_cons s[i] (s.drop (i + 1)) (i - at_) n
    rw [hd]
    by_cases a1 : (s[i].toNat : Int) < 48
    · have hw : wl (s[i] :: s.drop (i + 1)) (i - at_) n = none := by rw [hunf, if_pos (.inl (by omega))]
      rw [hw]
      clear hw hunf ih hpw hp h1 k4 hd
      refine Ev.step (fun k => by rw [frisketref07_Whole.l0]) ?_
      rw [bt_bar' s i hi2]
      exact evPos k1 (evPos k2 (evPos a1 (Ev.now _)))
    · by_cases a2 : (s[i].toNat : Int) > 57
      · have hw : wl (s[i] :: s.drop (i + 1)) (i - at_) n = none := by rw [hunf, if_pos (.inr (.inl (by omega)))]
        rw [hw]
        clear hw hunf ih hpw hp h1 k4 hd
        refine Ev.step (fun k => by rw [frisketref07_Whole.l0]) ?_
        rw [bt_bar' s i hi2]
        exact evPos k1 (evPos k2 (evNeg a1 (evPos a2 (Ev.now _))))
      · by_cases a3 : ((i - at_ : Nat) : Int) ≥ 9
        · have hw : wl (s[i] :: s.drop (i + 1)) (i - at_) n = none := by rw [hunf, if_pos (.inr (.inr (by omega)))]
          rw [hw]
          clear hw hunf ih hpw hp h1 k4 hd
          refine Ev.step (fun k => by rw [frisketref07_Whole.l0]) ?_
          rw [bt_bar' s i hi2, E1.out]
          exact evPos k1 (evPos k2 (evNeg a1 (evNeg a2 (evPos a3 (Ev.now _)))))
        · have hw : wl (s[i] :: s.drop (i + 1)) (i - at_) n = wl (s.drop (i + 1)) (i + 1 - at_) (n * 10 + ((s[i].toNat : Int) - 48)) := by rw [hunf, if_neg (by omega), i2]
          have e4 := k4 (by omega) (by omega)
          have b1 : 0 ≤ n * 10 + ((s[i].toNat : Int) - 48) := by omega
          have b2 : n * 10 + ((s[i].toNat : Int) - 48) < 10 ^ (i + 1 - at_) := hpw _ (by omega)
          have H := ih (i + 1) _ i1 (by omega) (by omega) b1 b2
          rw [hw]
          have e6 : n * 10 + ((s[i].toNat : Int) - 48) % 256 = n * 10 + ((s[i].toNat : Int) - 48) := by rw [e4]
          have e5 := E3.out
          rw [e6] at e5
          clear hw hunf ih hpw hp h1 k4 hd e4 b1 b2
          refine Ev.step (fun k => by rw [frisketref07_Whole.l0]) ?_
          rw [bt_bar' s i hi2, E1.out, E2.out, e5]
          exact evPos k1 (evPos k2 (evNeg a1 (evNeg a2 (evNeg a3 H))))
theorem whole_ev (s : List UInt8) : Ev (fun k => frisketref07_Whole.f k (bar s)) (wholeOf s) := by
  unfold frisketref07_Whole.f wholeOf
  rw [bar_toList, bar_size]
  cases s with
  | nil =>
    refine evPos rfl (Ev.step (fun k => by rw [frisketref07_Whole.j0]) (evNeg (by simp) (Ev.step (fun k => by rw [frisketref07_Whole.j1]) ?_)))
    exact whole_l [] 0 (by omega) 0 0 0 rfl (Nat.le_refl _) (by omega) (by omega) (by decide)
  | cons c r =>
    have k1 : (0 : Int) < ((c :: r).length : Int) := by rw [List.length_cons]; omega
    have hbt : bt (bar (c :: r)) 0 = (c.toNat : Int) := bt_bar' (c :: r) 0 (by simp)
    refine evNeg (by simp) (evPos k1 (Ev.step (fun k => by rw [frisketref07_Whole.j0]) ?_))
    rw [hbt]
    by_cases hc : c = 45
    · subst hc
      refine evPos (by decide) (Ev.step (fun k => by rw [frisketref07_Whole.j1]) ?_)
      have := whole_l (45 :: r) 1 (by omega) r.length 1 0 (by simp; omega) (Nat.le_refl _) (by omega) (by omega) (by decide)
      simpa using this
    · have k2 : ¬ ((c.toNat : Int) == 45) = true := by
        simp only [beq_iff_eq]
        intro e
        exact hc (UInt8.toNat_inj.1 (show c.toNat = (45 : UInt8).toNat from by have : (45 : UInt8).toNat = 45 := rfl; omega))
      refine evNeg k2 (Ev.step (fun k => by rw [frisketref07_Whole.j1]) ?_)
      have := whole_l (c :: r) 0 (by omega) (c :: r).length 0 0 (by simp) (Nat.le_refl _) (by omega) (by omega) (by decide)
      simpa [hc] using this
theorem whole_dec (m : Nat) (h : m ≤ 1000000) : wholeOf (Lib.decDigits m) = ((m : Int), true) := by
  unfold wholeOf
  rw [if_neg, wl_dec m (by omega)]
  · simp only
    rw [show Lib.itoa (m : Int) = Lib.decDigits m from by unfold Lib.itoa; rw [if_neg (by omega), Int.toNat_natCast]]
    simp
  · intro e
    have h1 := dec_digit m
    cases hl : Lib.decDigits m with
    | nil => rw [hl] at e; cases e
    | cons c r =>
      rw [hl] at e h1
      have := h1 c List.mem_cons_self
      have e2 : c = 45 := by simpa using e
      subst e2
      have : (45 : UInt8).toNat = 45 := rfl
      omega
end Go.Proofs.YtanekljbehhjcaaDoor
