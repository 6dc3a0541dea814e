/-
  index.Pages: what it computes. No condition.
-/
import Derived.Test.YtanekljbehhjcaaDoorFind
import Derived.Test.YtanekljbehhjcaaDoorSorted
import Derived.Test.YtanekljbehhjcaaDoorJoined
import Derived.Deep.RegionHeld3
import Derived.Deep.AppendLies
namespace Go.Proofs.YtanekljbehhjcaaDoor
open Go.RowKit Go.Shelf Go.Sort Go.Proofs.YtanekljbehhjcaaDoorW.PrintWords

theorem infS : (Tryd.prog.info? 9).map (fun i => (i.zero, i.size, i.bytes)) = some (some (.string ⟨#[]⟩), 1, 16) := by kernel_rfl
/-- The parts as the slice holds them. -/
def strs (P : List (List UInt8)) : List Value := P.map fun p => .string (bar p)
theorem pages_none (A0 : Option Addr) (c0 : Nat) (l : List Int) (w : World) (hr : Kd.C (Kd.int .i64) w A0 l.length l) (hl : l.length ≤ 1000000000) (hb : l.any badPage = true) :
    Calls Tryd.prog 9 #[.slice A0 l.length c0] w fun e w' => e = .returned (.tuple #[.string (pagesOf l).1, .int .i64 (pagesOf l).2]) ∧ Below w.heap.size w w' := by
  have h := has_bad A0 c0 l w hr (by omega)
  have e1 : pagesOf l = (bar [], 1) := by unfold pagesOf; rw [if_pos hb]
  rw [hb] at h
  rw [e1]
  clear hb e1 hr
  go_enter Tryd.func9, Tryd.ntmps9
  go_wp2_with fail
  refine h.mono ?_; rintro e w' ⟨rfl, rfl⟩
  go_wp2_with fail
  go_ret2
  exact ⟨rfl, Below.refl _ _⟩

theorem partsFrom_one {l : List Int} {i : Nat} (hi : i < l.length) (h : ¬ 2 ≤ runTo l i - i) : partsFrom l i = dec (l.getD i 0) :: partsFrom l (i + 1) := by
  rw [partsFrom, if_pos hi, if_neg h]
theorem partsFrom_run {l : List Int} {i : Nat} (hi : i < l.length) (h : 2 ≤ runTo l i - i) : partsFrom l i = (dec (l.getD i 0) ++ 45 :: dec (l.getD (runTo l i) 0)) :: partsFrom l (runTo l i + 1) := by
  rw [partsFrom, if_pos hi, if_pos h]
theorem partsFrom_end {l : List Int} {i : Nat} (hi : ¬ i < l.length) : partsFrom l i = [] := by
  rw [partsFrom, if_neg hi]

theorem ints_of (A0 : Option Addr) (c0 : Nat) (l : List Int) (w : World) (hr : Kd.C (Kd.int .i64) w A0 l.length l) : IntsAt w.heap.size w (.slice A0 l.length c0) l := by
  cases l with
  | nil => exact .inl ⟨_, _, rfl, rfl⟩
  | cons x r =>
    obtain ⟨ad, e, hc⟩ := Kd.at_int hr 0 (by omega) (by simp)
    obtain ⟨b, off, spot⟩ := ad
    have hspot : spot = none := by simpa [Addr.add] using World.cell?_spot hc
    subst hspot
    refine .inr ⟨b, off, c0, by rw [e], ?_, fun j hj => ?_⟩
    · have := World.block_lt_of_cell? w _ hc
      simpa [Addr.add] using this
    · obtain ⟨ad2, e2, hc2⟩ := Kd.at_int hr (j : Int) (by omega) (by omega)
      rw [e] at e2
      injection e2 with e2
      subst e2
      rw [Int.toNat_natCast, Addr.add_lit] at hc2
      rw [hc2]; rfl
theorem below_drewN {B : Nat} {w w1 : World} (h : RowKit.Below B w w1) (k : Nat) : RowKit.Below B w (w1.drewN k) := ⟨h.os, h.tape, h.output, h.size, h.block⟩
theorem own_drewN {w : World} {base n : Nat} {e : TypeId} {size : Nat} {v : Value} {xs : List Value} (h : w.ownsRow base e size v n xs) (k : Nat) : (w.drewN k).ownsRow base e size v n xs := h

theorem glueAll_len (m : Nat) : ∀ (Q : List (List UInt8)) (s : List UInt8), (∀ p ∈ Q, p.length ≤ m) → (glueAll s Q).length ≤ s.length + (m + 2) * Q.length
  | [], s, _ => by simp [glueAll]
  | x :: r, s, h => by
    rw [glueAll]
    have h1 := glueAll_len m r (glue s x) (fun p hp => h p (List.mem_cons_of_mem _ hp))
    have h2 : (glue s x).length ≤ s.length + 2 + x.length := by
      unfold glue; split
      · simp
      · simp [comma]; omega
    have h3 := h x List.mem_cons_self
    have h4 : (m + 2) * (x :: r).length = (m + 2) * r.length + (m + 2) := by rw [List.length_cons, Nat.mul_add, Nat.mul_one]
    omega
theorem partsFrom_small (l : List Int) (i : Nat) (hr : ∀ x ∈ l, 0 ≤ x ∧ x ≤ 1000000) : (∀ p ∈ partsFrom l i, p.length ≤ 60) ∧ (partsFrom l i).length ≤ l.length - i := by
  fun_induction partsFrom l i with
  | case1 i h h2 ih =>
    have h3 := runTo_ge l i
    refine ⟨fun p hp => ?_, by have := ih.2; simp only [List.length_cons]; omega⟩
    rcases List.mem_cons.1 hp with rfl | hp
    · have a1 := dec_small (getD_range hr i).2
      have a2 := dec_small (getD_range hr (runTo l i)).2
      simp only [List.length_append, List.length_cons]; omega
    · exact ih.1 p hp
  | case2 i h h2 ih =>
    refine ⟨fun p hp => ?_, by have := ih.2; simp only [List.length_cons]; omega⟩
    rcases List.mem_cons.1 hp with rfl | hp
    · have a1 := dec_small (getD_range hr i).2
      omega
    · exact ih.1 p hp
  | case3 i h => exact ⟨fun p hp => by simp at hp, Nat.zero_le _⟩
theorem pagesT_len (l : List Int) (hr : ∀ x ∈ l, 0 ≤ x ∧ x ≤ 1000000) : (pagesT l).length ≤ 62 * l.length := by
  obtain ⟨h1, h2⟩ := partsFrom_small l 0 hr
  have h3 := glueAll_len 60 (partsFrom l 0) [] h1
  have h4 := glueAll_join [] (partsFrom l 0) (by simp) (partsFrom_ne l 0)
  rw [Lib.join_nil, List.nil_append] at h4
  unfold pagesT
  rw [← h4]
  simp only [List.length_nil] at h3
  omega
theorem join_calls (u : Value) (P : List (List UInt8)) (W : World) (base : Nat) (h : W.ownsRow base 9 1 u P.length (strs P)) (hP : P.length ≤ 1000000000) (hlen : (Lib.join P comma).length ≤ 140737488355328) :
    Calls Tryd.prog 26 #[u, .string ⟨#[44, 32]⟩] W fun e w2 => e = .returned (.string (bar (Lib.join P comma))) ∧ Below W.heap.size W w2 := by
  rcases h.2 with ⟨rfl, hz⟩ | ⟨g, cap, cur, rfl, hb, hh, h1, h2, h3, h4⟩
  · have : P = [] := List.eq_nil_of_length_eq_zero hz
    subst this
    exact (Tryd.strings_Join_none none 0 ⟨#[44, 32]⟩ W).mono fun e w2 ⟨e1, e2⟩ => ⟨e1, by rw [e2]; exact Below.refl _ _⟩
  · have hm : (P.map bar).map (fun s => s.data.toList) = P := by
      rw [List.map_map]; exact List.map_id P
    have hj := Tryd.strings_Join g 0 cap (P.map bar) ⟨#[44, 32]⟩ W (fun j x hx => by
      have := h.cells (g := g) rfl j (.string x) (by unfold strs; rw [List.getElem?_map] at hx ⊢; cases hp : P[j]? with
        | none => rw [hp] at hx; cases hx
        | some y => rw [hp] at hx; simp at hx ⊢; exact hx)
      rwa [Addr.add_lit] at this) (Array.getElem?_eq_some_iff.1 hh).1 (by rw [List.length_map]; omega) (by rw [List.length_map]; exact h1) (by rw [hm]; exact hlen)
    rw [hm, List.length_map] at hj
    exact hj
set_option maxRecDepth 100000 in
set_option maxHeartbeats 4000000 in
theorem pages_ok (A0 : Option Addr) (c0 : Nat) (l : List Int) (w : World) (hG : GW w) (hr : Kd.C (Kd.int .i64) w A0 l.length l) (hl : l.length ≤ 100000000) (hbad : l.any badPage = false) :
    Calls Tryd.prog 9 #[.slice A0 l.length c0] w fun e w' => e = .returned (.tuple #[.string (pagesOf l).1, .int .i64 (pagesOf l).2]) ∧ Below w.heap.size w w' := by
  have h := has_bad A0 c0 l w hr (by omega)
  have e1 : pagesOf l = (bar (pagesT (sortD l)), 0) := by unfold pagesOf; rw [if_neg (by rw [hbad]; simp)]
  rw [hbad] at h
  rw [e1]
  have hv : Calls Tryd.prog 24 #[.slice A0 l.length c0] w _ := (callsIn_wide (n := 6)).1 (values_in Fence.wide 6 trivial rfl A0 l.length c0 w)
  have hI := ints_of A0 c0 l w hr
  have hb0 : Below w.heap.size w (w.alloc (.cells #[.slice A0 l.length c0] 23)) := (Below.refl _ w).alloc (Nat.le_refl _) _
  have hS := sorted_calls w.heap.size w.heap.size (.slice A0 l.length c0) l (by omega) (w.alloc (.cells #[.slice A0 l.length c0] 23)) (by simp) (by simp) (Boxed.new w 23 (.slice A0 l.length c0)).cell (hI.below hb0)
  have hC := fun W2 v h5 h4 => compact_calls w W2 v l (by omega) h5 h4
  have hrg : ∀ x ∈ sortD l, 0 ≤ x ∧ x ≤ 1000000 := fun x hx => by
    have h1 := (sortD_mem l x).1 hx
    have h2 := List.any_eq_false.1 hbad x h1
    simp [badPage] at h2; omega
  have hLl := sortD_len l
  have HP := Lib.hid (show pagesT (sortD l) = Lib.join (partsFrom (sortD l) 0) comma from rfl)
  clear hbad e1 hr hI
  generalize sortD l = L at *
  go_enter Tryd.func9, Tryd.ntmps9
  go_wp2_with fail
  refine h.mono ?_; rintro e w' ⟨rfl, rfl⟩
  clear h
  go_wp2_with fail
  refine hv.mono ?_; rintro e w1 ⟨rfl, rfl⟩
  clear hv
  go_wp2_with fail
  refine hS.mono ?_; rintro e W2 ⟨v, rfl, h4, h5⟩
  have hC := hC W2 v (hb0.trans (h5.mono hb0.size)) (h4.imp id fun ⟨g, cap, cur, q0, q1, q2⟩ => ⟨g, cap, cur, q0, by simp at q1; omega, q2⟩)
  clear hS h4 h5 hb0
  go_wp2_with fail
  refine hC.mono ?_; rintro e W3 ⟨v', rfl, ⟨A, c, rfl, hc0, hA, hcell⟩, hb3⟩
  clear hC
  go_wp2_with fail
  obtain ⟨i0, hi, hz0, hz1, hz2⟩ := info_parts infS
  go_loopw [4, 5] (fun v x wr => ∃ (P : List (List UInt8)) (j : Nat), x = .int .i64 j ∧ j ≤ L.length ∧ P.length ≤ j ∧ Hid (P ++ partsFrom L j = partsFrom L 0) ∧ wr.ownsRow W3.heap.size 9 1 v P.length (strs P) ∧ Below W3.heap.size W3 wr)
    (fun _ x _ => L.length - (intOf x).toNat)
  case atStart => exact ⟨[], 0, rfl, Nat.zero_le _, Nat.le_refl _, Lib.hid rfl, World.ownsRow_nil _ _ _ _, Below.refl _ _⟩
  case round =>
    obtain ⟨P, j, rfl, hj, hPl, HPj, hown, hb4⟩ := hrel
    by_cases hlt : j < L.length
    · obtain ⟨g, rfl, hg⟩ := hA (by omega)
      have hcw : ∀ k (h : k < L.length), wr.cell? ⟨g, k, none⟩ = some (.int .i64 L[k]) := fun k h => (hb4.cell (p := ⟨g, k, none⟩) hg).trans (hcell g rfl k h)
      have HC := Lib.hid hcw
      clear hcell hA hcw
      go_wp2_with fail
      obtain ⟨wo, hwo⟩ : ∃ wo : World, wo = wr := ⟨_, rfl⟩
      subst hwo
      go_loopw [6] (fun x wr => ∃ k : Nat, x = .int .i64 k ∧ j ≤ k ∧ k < L.length ∧ Hid (runTo L k = runTo L j) ∧ Hid (∃ n, wr = wo.drewN n)) (fun x _ => L.length - (intOf x).toNat)
      case atStart => exact ⟨j, rfl, Nat.le_refl _, hlt, Lib.hid rfl, Lib.hid ⟨0, rfl⟩⟩
      case round =>
        obtain ⟨k, rfl, hjk, hkl, HR, HD⟩ := hrel
        have hkr := hrg _ (List.getElem_mem hkl)
        have hck : wr.cell? ⟨g, k, none⟩ = some (.int .i64 L[k]) := by
          obtain ⟨n, e⟩ := HD.out
          rw [e]; exact HC.out k hkl
        have HH2 : L.getD k 0 = L[k] := by rw [List.getD_eq_getElem?_getD, List.getElem?_eq_getElem hkl]; rfl
        have hw1 : IntKind.i64.wrap ((k : Int) + 1) = (k : Int) + 1 := IntWalk.i64_in _ (by omega)
        have hw2 : IntKind.i64.wrap (L[k] + 1) = L[k] + 1 := IntWalk.i64_in _ (by omega)
        have q0 : (0 : Int) ≤ (k : Int) + 1 := by omega
        have q1 : ((k : Int) + 1).toNat = k + 1 := by omega
        have q3 : (k : Int) < (L.length : Int) := by omega
        by_cases hst : k + 1 < L.length ∧ L.getD (k + 1) 0 = L.getD k 0 + 1
        · obtain ⟨h1, h2⟩ := hst
          have HR2 := Lib.hid (show runTo L (k + 1) = runTo L j from by rw [← runTo_step h1 h2]; exact HR.out)
          have hck1 : wr.cell? ⟨g, k + 1, none⟩ = some (.int .i64 L[k + 1]) := by
            obtain ⟨n, e⟩ := HD.out
            rw [e]; exact HC.out (k + 1) h1
          rw [HH2, List.getD_eq_getElem?_getD, List.getElem?_eq_getElem h1, Option.getD_some] at h2
          have q2 : (k : Int) + 1 < (L.length : Int) := by omega
          have q4 : decide ((k : Int) + 1 < (L.length : Int)) = true := decide_eq_true q2
          have q5 : (L[k + 1] == L[k] + 1) = true := beq_iff_eq.2 h2
          clear HR h2 HH2
          go_wp2_with fail
          go_quiet (fail)
          clear hw1 hw2 q1 q4 q5
          go_wp2_with fail
          go_roundw
          case rel => exact ⟨k + 1, by go_num, by omega, h1, HR2, Lib.hid (by obtain ⟨n, e⟩ := HD.out; exact ⟨n + nq, by rw [e, World.drewN_drewN]⟩)⟩
          case measure => simp [intOf]; omega
        · have HR2 := Lib.hid (show runTo L j = k from by rw [← HR.out, runTo_stop hst])
          have hjr := hrg _ (List.getElem_mem hlt)
          clear HR
          have hrest : ∀ wq : World, (∃ n, wq = wo.drewN n) → wq.cell? ⟨g, j, none⟩ = some (.int .i64 L[j]) ∧ wq.cell? ⟨g, k, none⟩ = some (.int .i64 L[k]) ∧ wq.ownsRow W3.heap.size 9 1 u4 P.length (strs P) ∧ RowKit.Below w'.heap.size w' wq ∧ RowKit.Below W3.heap.size W3 wq := by
            rintro wq ⟨n, rfl⟩
            exact ⟨HC.out j hlt, HC.out k hkl, own_drewN hown n, below_drewN (hb3.trans (hb4.mono hb3.size)) n, below_drewN hb4 n⟩
          have HRest := Lib.hid hrest
          clear hrest
          have HH3 : L.getD j 0 = L[j] := by rw [List.getD_eq_getElem?_getD, List.getElem?_eq_getElem hlt]; rfl
          by_cases h3 : 2 ≤ k - j
          · have hkr2 := hkr
            have HPn := Lib.hid (show (P ++ [dec L[j] ++ 45 :: dec L[k]]) ++ partsFrom L (k + 1) = partsFrom L 0 from by
              rw [← HPj.out, partsFrom_run hlt (by rw [HR2.out]; exact h3), HR2.out, HH3, HH2, List.append_assoc]; rfl)
            have hjo := fun (W : World) (g' : Nat) (hGW : GW W) (hg' : g' < W.heap.size) (hc : ∀ (i : Nat) x, ([.inr L[j], .inl ⟨#[45]⟩, .inr L[k]] : List (ByteArray ⊕ Int))[i]? = some x → W.cell? ⟨g', 0 + i, none⟩ = some (encP x)) =>
              joined_calls [.inr L[j], .inl ⟨#[45]⟩, .inr L[k]] g' 0 3 W hGW (by intro n hn; simp at hn; omega) hc hg' (by simp) (by
                have a1 := dec_small (n := L[j]) (by omega)
                have a2 := dec_small (n := L[k]) (by omega)
                have e1 : Lib.itoa L[j] = dec L[j] := by unfold Lib.itoa dec; rw [if_neg (by omega)]
                have e2 : Lib.itoa L[k] = dec L[k] := by unfold Lib.itoa dec; rw [if_neg (by omega)]
                simp [txtP, txt1, e1, e2]; omega)
            have ht : txtP [.inr L[j], .inl ⟨#[45]⟩, .inr L[k]] = dec L[j] ++ 45 :: dec L[k] := by
              have e1 : Lib.itoa L[j] = dec L[j] := by unfold Lib.itoa dec; rw [if_neg (by omega)]
              have e2 : Lib.itoa L[k] = dec L[k] := by unfold Lib.itoa dec; rw [if_neg (by omega)]
              simp [txtP, txt1, e1, e2]
            rw [ht] at hjo
            clear ht
            by_cases h1 : k + 1 < L.length
            case' pos =>
              have hck1 : wr.cell? ⟨g, k + 1, none⟩ = some (.int .i64 L[k + 1]) := by
                obtain ⟨n, e⟩ := HD.out
                rw [e]; exact HC.out (k + 1) h1
              have h2 : ¬ L[k + 1] = L[k] + 1 := fun h => hst ⟨h1, by rw [HH2, List.getD_eq_getElem?_getD, List.getElem?_eq_getElem h1, Option.getD_some]; exact h⟩
              have q2 : (k : Int) + 1 < (L.length : Int) := by omega
              have q4 : decide ((k : Int) + 1 < (L.length : Int)) = true := decide_eq_true q2
              have q5 : (L[k + 1] == L[k] + 1) = false := beq_eq_false_iff_ne.2 h2
              clear h2 HH2 hst HH3
              go_wp2_with fail
              go_quiet (fail)
              clear hw1 hw2 q1 q4 q5 hck1 hck
            case' neg =>
              have q4 : decide ((k : Int) + 1 < (L.length : Int)) = false := decide_eq_false (by omega)
              clear HH2 hst HH3
              go_wp2_with fail
              go_quiet (fail)
              clear hw1 hw2 q1 q4 hck
            all_goals
              obtain ⟨r1, r2, r3, r4, r5⟩ := HRest.out (wr.drewN nq) (by obtain ⟨n, e⟩ := HD.out; exact ⟨n + nq, by rw [e, World.drewN_drewN]⟩)
              generalize wr.drewN nq = wq at r1 r2 r3 r4 r5 ⊢
              have hq6 : (j : Int) < (L.length : Int) := by omega
              have hgq : g < wq.heap.size := Nat.lt_of_lt_of_le hg r5.size
              clear HRest HC
              go_wp2_with fail
              have hz3 := r5.size
              have hS : ∀ W, RowKit.Below wq.heap.size wq W → (W.cell? ⟨g, j, none⟩ = some (.int .i64 L[j]) ∧ W.cell? ⟨g, k, none⟩ = some (.int .i64 L[k])) ∧ W.ownsRow W3.heap.size 9 1 u4 P.length (strs P) ∧ RowKit.Below W3.heap.size W3 W := fun W hbW =>
                ⟨⟨(hbW.cell (p := ⟨g, j, none⟩) hgq).trans r1, (hbW.cell (p := ⟨g, k, none⟩) hgq).trans r2⟩, pw_own_below r3 hbW, r5.trans (hbW.mono r5.size)⟩
              have HS := Lib.hid hS
              have ag : some g ≠ u4.ownBlock := fun e => by have := own_base r3 g e.symm; omega
              have hK : ∀ W w3, RowKit.Below wq.heap.size wq W → W.grownBy w3 u4.ownBlock → w3.cell? ⟨g, j, none⟩ = some (.int .i64 L[j]) ∧ w3.cell? ⟨g, k, none⟩ = some (.int .i64 L[k]) := fun W w3 hbW hg3 => by
                have hlt3 := Nat.lt_of_lt_of_le hgq hbW.size
                exact ⟨by rw [hg3.cell_far _ hlt3 ag]; exact (hS W hbW).1.1, by rw [hg3.cell_far _ hlt3 ag]; exact (hS W hbW).1.2⟩
              have HK := Lib.hid hK
              clear hK
              have hba : RowKit.Below wq.heap.size wq (wq.alloc (.cells #[.iface 3 (.int .i64 L[j]), .iface 9 (.string ⟨#[45]⟩), .iface 3 (.int .i64 L[k])] 20)).drew := ((Below.refl _ _).alloc (Nat.le_refl _) _).drew
              have hjc := hjo (wq.alloc (.cells #[.iface 3 (.int .i64 L[j]), .iface 9 (.string ⟨#[45]⟩), .iface 3 (.int .i64 L[k])] 20)).drew wq.heap.size (hG.under (r4.trans (hba.mono r4.size))) (by simp) (by
                intro i x hx
                have e : (wq.alloc (.cells #[.iface 3 (.int .i64 L[j]), .iface 9 (.string ⟨#[45]⟩), .iface 3 (.int .i64 L[k])] 20)).drew.heap[wq.heap.size]? = some (.cells #[.iface 3 (.int .i64 L[j]), .iface 9 (.string ⟨#[45]⟩), .iface 3 (.int .i64 L[k])] 20) := World.alloc_heap_new wq _
                simp only [World.cell?, e, Nat.zero_add]
                match i, hx with
                | 0, hx => cases hx; rfl
                | 1, hx => cases hx; rfl
                | 2, hx => cases hx; rfl)
              clear hS hjo
              go_region_held3 (fun W => W.cell? ⟨g, j, none⟩ = some (.int .i64 L[j]) ∧ W.cell? ⟨g, k, none⟩ = some (.int .i64 L[k]))
                (first | exact HK.out _ _ ((hba.trans (hb2.mono hba.size)).alloc (Nat.le_trans hba.size hb2.size) _) hgrow | exact (HS.out _ ((hba.trans (hb2.mono hba.size)).alloc (Nat.le_trans hba.size hb2.size) _)).1 | exact (HS.out _ (hba.trans (hb2.mono hba.size))).1 | exact (HS.out _ hba).1 | exact (HS.out _ (Below.refl _ _).drew).1)
                (first | (go_at_call 25; refine hjc.mono ?_; rintro e w2 ⟨rfl, hb2⟩) | (refine step_append_lies _ (by rfl) _ _ _ (by rfl) W3.heap.size 9 i0 _ 1 16 Tryd.underlying25 hi hz0 hz1 hz2 rfl (by omega) u4 P.length (strs P) (by rfl) (HS.out _ ((hba.trans (hb2.mono hba.size)).alloc (Nat.le_trans hba.size hb2.size) _)).2.1 ⟨w2.heap.size, 0, none⟩ 1 1 [.string (bar (dec L[j] ++ 45 :: dec L[k]))] (by rfl) (by rfl) (World.news_of_block (cs := #[.string (bar (dec L[j] ++ 45 :: dec L[k]))]) (t := 9) (fr := (0, 0)) (heap_alloc_new w2 _)) (by simp [Value.oneCell']) (by omega) (by unfold maxLen; omega) (by omega) (by have := hb2.size; have := hba.size; simp at *; omega) (w2.heap.size + 1) (by simp) ?_; intro gg cap w3 hown1 hgrow hat hlt3))
              have b5 := (HS.out _ ((hba.trans (hb2.mono hba.size)).alloc (Nat.le_trans hba.size hb2.size) (.cells #[.string (bar (dec L[j] ++ 45 :: dec L[k]))] 9))).2.2
              have b6 : RowKit.Below W3.heap.size W3 w3 := b5.grown hgrow b5.size (fun x hx => own_base r3 x hx)
              clear HS HK hjc hba b5 hgrow hb2 hat
              go_wp2_with fail
              go_roundw
              case rel => exact ⟨P ++ [dec L[j] ++ 45 :: dec L[k]], k + 1, by go_num, by omega, by rw [List.length_append]; simp; omega, HPn, by simpa [strs] using hown1, b6⟩
              case measure => simp [intOf]; omega
          · have HPn := Lib.hid (show (P ++ [dec L[j]]) ++ partsFrom L (j + 1) = partsFrom L 0 from by
              rw [← HPj.out, partsFrom_one hlt (by rw [HR2.out]; exact h3), HH3, List.append_assoc]; rfl)
            by_cases h1 : k + 1 < L.length
            case' pos =>
              have hck1 : wr.cell? ⟨g, k + 1, none⟩ = some (.int .i64 L[k + 1]) := by
                obtain ⟨n, e⟩ := HD.out
                rw [e]; exact HC.out (k + 1) h1
              have h2 : ¬ L[k + 1] = L[k] + 1 := fun h => hst ⟨h1, by rw [HH2, List.getD_eq_getElem?_getD, List.getElem?_eq_getElem h1, Option.getD_some]; exact h⟩
              have q2 : (k : Int) + 1 < (L.length : Int) := by omega
              have q4 : decide ((k : Int) + 1 < (L.length : Int)) = true := decide_eq_true q2
              have q5 : (L[k + 1] == L[k] + 1) = false := beq_eq_false_iff_ne.2 h2
              clear h2 HH2 hst HH3
              go_wp2_with fail
              go_quiet (fail)
              clear hw1 hw2 q1 q4 q5 hck1 hck
            case' neg =>
              have q4 : decide ((k : Int) + 1 < (L.length : Int)) = false := decide_eq_false (by omega)
              clear HH2 hst HH3
              go_wp2_with fail
              go_quiet (fail)
              clear hw1 hw2 q1 q4 hck
            all_goals
              obtain ⟨r1, r2, r3, r4, r5⟩ := HRest.out (wr.drewN nq) (by obtain ⟨n, e⟩ := HD.out; exact ⟨n + nq, by rw [e, World.drewN_drewN]⟩)
              generalize wr.drewN nq = wq at r1 r2 r3 r4 r5 ⊢
              have hit := itoa_any L[j] wq (by omega) (by omega) (hG.under r4)
              rw [show Lib.itoa L[j] = dec L[j] from by unfold Lib.itoa dec; rw [if_neg (by omega)]] at hit
              have hz := r4.size
              go_wp2_with fail
              refine hit.mono ?_; rintro e w2 ⟨rfl, hb2⟩
              have o2 := pw_own_below r3 hb2
              have b5 := r5.trans (hb2.mono r5.size)
              have hzw := b5.size
              clear hit r1 r2 r3 r4 r5 hb2 HRest HC
              go_wp2_with (at_builtin; refine wpList_append_own _ rfl _ _ 25 rfl W3.heap.size 9 i0 (.string ⟨#[]⟩) 1 16 Tryd.underlying25 hi hz0 hz1 hz2 rfl (by decide) _ _ _ rfl (o2.alloc _) ⟨w2.heap.size, 0, none⟩ 1 1 [.string (bar (dec L[j]))] rfl rfl (cell_one_new _ _ _) (by simp [Value.oneCell']) (by unfold maxLen; omega) (by omega) (by simp; omega) ?_; intro v' w3 hown' hgrow _)
              go_roundw
              case rel => exact ⟨P ++ [dec L[j]], j + 1, by go_num, by omega, by rw [List.length_append]; simp; omega, HPn, by simpa [strs] using hown', (b5.alloc hzw _).grown hgrow (by simp; omega) (fun x hx => own_base o2 x hx)⟩
              case measure => simp [intOf]; omega
    · obtain rfl : j = L.length := by omega
      have hfin : P = partsFrom L 0 := by rw [← HPj.out, partsFrom_end (by omega), List.append_nil]
      have hPbig : P.length ≤ L.length := hPl
      have hjoin : Calls Tryd.prog 26 #[u4, .string ⟨#[44, 32]⟩] wr fun e w2 => e = .returned (.string (bar (pagesT L))) ∧ Below wr.heap.size wr w2 := by
        have hlen := pagesT_len L hrg
        rw [HP.out, ← hfin] at hlen ⊢
        exact join_calls u4 P wr _ hown (by omega) (by omega)
      clear HPj hfin hcell hA
      go_wp2_with fail
      refine hjoin.mono ?_; rintro e w2 ⟨rfl, hb2⟩
      go_wp2_with fail
      go_ret2
      exact ⟨rfl, (hb3.trans (hb4.mono hb3.size)).trans (hb2.mono (Nat.le_trans hb3.size hb4.size))⟩
/-- As the printed callers ask it. -/
def index_Pages.f (l : List Int) : Option (ByteArray × Int) := if l.length ≤ 100000000 then some (pagesOf l) else none
theorem index_Pages.calls (A0 : Option Addr) (c0 : Nat) (l0 : List Int) (r1 : ByteArray) (r2 : Int) (w : World) (hr0 : Kd.C (Kd.int .i64) w A0 l0.length l0) (_ : l0.length ≤ c0) (hG : GW w) (h : index_Pages.f l0 = some (r1, r2)) :
    Calls Tryd.prog 9 #[.slice A0 l0.length c0] w fun e w' => e = .returned (.tuple #[.string r1, .int .i64 r2]) ∧ RowKit.Below w.heap.size w w' := by
  unfold index_Pages.f at h
  split at h
  · rename_i hl
    have e : pagesOf l0 = (r1, r2) := Option.some.inj h
    by_cases hb : l0.any badPage = true
    · have := pages_none A0 c0 l0 w hr0 (by omega) hb
      rw [e] at this; exact this
    · have := pages_ok A0 c0 l0 w hG hr0 hl (by simpa using hb)
      rw [e] at this; exact this
  · cases h
end Go.Proofs.YtanekljbehhjcaaDoor
