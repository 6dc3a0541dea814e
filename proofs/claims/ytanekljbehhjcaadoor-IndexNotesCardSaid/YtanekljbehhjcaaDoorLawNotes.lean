/-
  IndexNotes: the walk. No condition.
-/
import Derived.Test.YtanekljbehhjcaaDoorNotes
import Derived.Test.YtanekljbehhjcaaDoorNotesM
import Derived.Test.YtanekljbehhjcaaDoorSaneL
import Derived.Test.YtanekljbehhjcaaDoorPXx3
import Derived.Deep.RegionHeld3
import Derived.Deep.AppendLies
namespace Go.Proofs.YtanekljbehhjcaaDoor
open Go.RowKit Go.Proofs.YtanekljbehhjcaaDoorW.PrintWords Go.Proofs.YtanekljbehhjcaaDoorW.PrintMore Go.Proofs.YtanekljbehhjcaaDoor.PX

def bCells : Array Value := #[.string ⟨#[105, 110, 100, 101, 120, 32, 53, 32, 97, 112, 112, 108, 101]⟩, .string ⟨#[105, 110, 100, 101, 120, 32, 48, 53, 32, 97, 59, 98]⟩, .string ⟨#[105, 110, 100, 101, 120, 32, 120, 32, 97]⟩, .string ⟨#[105, 110, 100, 101, 120, 32, 55, 32]⟩, .string ⟨#[105, 110, 100, 101, 120, 32, 32, 97]⟩, .string ⟨#[111, 116, 104, 101, 114, 32, 53, 32, 97]⟩, .string ⟨#[105, 110, 100, 101, 120, 32, 49, 48, 48, 48, 48, 48, 49, 32, 97]⟩, .string ⟨#[105, 110, 100, 101, 120, 32, 49, 50, 32, 97, 32, 98, 124, 115, 101, 101, 32, 99]⟩]
theorem info28 : (Tryd.prog.info? 28).map (fun i => (i.zero, i.size, i.bytes)) = some (some (.agg #[.int .i64 0, .int .i64 0, .string ⟨#[]⟩]), 3, 32) := by kernel_rfl
theorem heap_new' {W : World} {H : Nat} {o : Obj} (h : H = W.heap.size) : (W.alloc o).heap[H]? = some o := by rw [h]; exact World.alloc_heap_new W o
theorem heap_old {W : World} {H : Nat} {o x : Obj} (h : W.heap[H]? = some x) : (W.alloc o).heap[H]? = some x := by
  have hlt : H < W.heap.size := by
    rcases Nat.lt_or_ge H W.heap.size with h1 | h1
    · exact h1
    · rw [Array.getElem?_eq_none h1] at h; cases h
  exact (((Below.refl _ W).alloc (Nat.le_refl _) o).block H hlt).trans h
theorem R_empty28 {W : World} {base H : Nat} (hb : base ≤ H) (h : W.heap[H]? = some (.cells #[] 28 (0, 0))) : Kd.R k28 28 W base (fun _ => True) (.slice (some ⟨H, 0, none⟩) 0 0) [] :=
  ⟨fun _ _ => trivial, [], ⟨rfl, .inr ⟨H, 0, #[], rfl, hb, h, Nat.le_refl _, Nat.zero_le _, rfl, rfl⟩⟩, Reps.none _ _⟩
section
variable {o : Oper} {a : Act} {Kc : Act → World → Prop} {Q : Exit → Act → World → Prop} {ops : Array Oper} {E : Prop}
theorem step_first (hw : Region.wanted o (yielded ops a.tmps) = true) (s x : Operand) (ho : o.op = .call { callee := .builtin .append, args := #[s, x], argTypes := #[22, 22] })
    (L : List S28) (A : Option Addr) (c H : Nat) (wr W : World) (hs : a.eval s = .slice (some ⟨H, 0, none⟩) 0 0) (hx : a.eval x = .slice A L.length c)
    (hC : Kd.C k28 wr A L.length L) (HB : Below wr.heap.size wr W) (hH : wr.heap.size ≤ H) (hcell : W.heap[H]? = some (.cells #[] 28 (0, 0))) (hl : L.length ≤ 1000)
    (h : ∀ v1 w1, Kd.R k28 28 w1 wr.heap.size (fun _ => True) v1 L → Below wr.heap.size wr w1 → W.grownBy w1 (some H) → (v1.ownBlock = some H ∨ ∃ b, v1.ownBlock = some b ∧ W.heap.size ≤ b) → Kc (a.put o.dst v1) w1) :
    if Region.wanted o (yielded ops a.tmps) = true then Oper.wp Tryd.prog o a W Kc Q else Kc (a.put o.dst undef) W := by
  refine Kd.R_append_rows_step k28 (Rr := k28.K wr) (w0 := wr) wr.heap.size hw s x 22 28 (.agg #[.int .i64 0, .int .i64 0, .string ⟨#[]⟩]) 32 ho Tryd.underlying22 info28 rfl (by decide) (by decide) (.slice (some ⟨H, 0, none⟩) 0 0) [] L A L.length c (fun _ => True) (fun _ => False) hs hx (R_empty28 hH hcell) (ReadsRow.imp_ hC HB (fun _ _ hp => hp)) (fun y cs hy => ?_) (fun _ hk => hk.elim) (fun _ _ => trivial) HB HB.size (by simp; omega) ?_
  · obtain rfl := k28_open hy
    exact k28_mkM _ _ _ y
  · intro v1 w1 hR hB hg hat
    exact h v1 w1 hR hB hg hat
theorem step_second (hgd : o.guard = none) (s x : Operand) (ho : o.op = .call { callee := .builtin .append, args := #[s, x], argTypes := #[22, 22] })
    (L : List S28) (p : S28) (B : Nat) (wr W : World) (v : Value) (hs : a.eval s = v) (hx : a.eval x = .slice (some ⟨B, 0, none⟩) 1 1)
    (hR : Kd.R k28 28 W wr.heap.size (fun _ => True) v L) (HB : Below wr.heap.size wr W) (hcell : W.heap[B]? = some (.cells #[.int .i64 p.f0, .int .i64 p.f1, .string p.f2] 28 (0, 0))) (hl : L.length ≤ 1000)
    (h : ∀ A c w1, Kd.C k28 w1 A (L.length + 1) (L ++ [p]) → L.length + 1 ≤ c → Below wr.heap.size wr w1 → Kc (a.put o.dst (.slice A (L.length + 1) c)) w1) :
    if Region.wanted o (yielded ops a.tmps) = true then Oper.wp Tryd.prog o a W Kc Q else E := by
  obtain ⟨i0, hi, hz0, hz1, hz2⟩ := info_parts info28
  obtain ⟨h0, inner, hown, hr⟩ := hR
  refine step_append_lies W hgd s x 22 ho wr.heap.size 28 i0 _ 3 32 Tryd.underlying22 hi hz0 hz1 hz2 rfl (by decide) v L.length inner hs hown ⟨B, 0, none⟩ 1 1 [.int .i64 p.f0, .int .i64 p.f1, .string p.f2] hx rfl (World.news_of_block (cs := #[.int .i64 p.f0, .int .i64 p.f1, .string p.f2]) hcell) (by simp [Value.oneCell']) (by decide) (by unfold maxLen; omega) (by omega) HB.size _ rfl ?_
  intro g cap w1 hown1 hg1 hat1 hlt
  have hR1 : Kd.R k28 28 w1 wr.heap.size (fun _ => True) (.slice (some ⟨g, 0, none⟩) (L.length + 1) cap) (L ++ [p]) := by
    refine Kd.R_appended h0 hr (k28_mkM W wr.heap.size (fun _ => False) p) (fun _ hk => hk.elim) (fun _ _ => trivial) hown1 hg1 ?_
    rcases hat1 with e | e
    · exact .inl (by rw [e]; rfl)
    · exact .inr ⟨g, rfl, by omega⟩
  obtain ⟨e1, e2, e3⟩ := Kd.R_reads' hR1
  rw [← e1] at e3
  exact h _ _ _ e3 e2 (HB.grown hg1 HB.size (fun k hk => own_base hown k hk))
end
theorem bCells_at (k : Nat) (hk : k < 8) : ∃ t : ByteArray, bCells[k]? = some (.string t) ∧ t.size ≤ 100 := by
  unfold bCells
  rcases k with _ | _ | _ | _ | _ | _ | _ | _ | k
  case succ.succ.succ.succ.succ.succ.succ.succ => omega
  all_goals exact ⟨_, rfl, by decide⟩
theorem reps_cellsE (w : World) (X : List (ByteArray × Int)) : Reps (k35.K w) 2 (X.map toS) (cellsE X) := by
  refine ⟨by rw [cellsE_len, List.length_map], ?_⟩
  induction X with
  | nil => intro j p h; simp at h
  | cons x X ih =>
    intro j p h
    have e : cellsE (x :: X) = .string x.1 :: .int .i64 x.2 :: cellsE X := by simp [cellsE]
    rw [e]
    cases j with
    | zero =>
      rw [List.map_cons, List.getElem?_cons_zero] at h
      cases h
      exact k35_mk w (toS x)
    | succ j =>
      rw [List.map_cons, List.getElem?_cons_succ] at h
      have := ih j p h
      rw [show (j + 1) * 2 = j * 2 + 1 + 1 by omega, List.drop_succ_cons, List.drop_succ_cons]
      exact this
theorem notesOf_all (L : List S28) : (notesOf L).length ≤ L.length := by
  have := notesOf_le L L.length
  rwa [List.take_length] at this
theorem pick_facts (pk : Int) (wr : World) (H : Nat) (h : wr.heap[H]? = some (.cells bCells 9 (0, 0))) : ∃ (kx : Nat) (n8 : Int) (tx : ByteArray), kx < 8 ∧ IntKind.i64.wrap ((IntKind.u64.wrap ((IntKind.u64.wrap pk).tdiv 3)).tmod 8) = (kx : Int) ∧ IntKind.i64.wrap (8 + IntKind.i64.wrap ((IntKind.u64.wrap pk).tmod 3)) = n8 ∧ wr.cell? ⟨H, kx, none⟩ = some (.string tx) ∧ tx.size ≤ 140737488355328 := by
  have e0 : IntKind.u64.wrap pk = pk % 18446744073709551616 := by rw [IntKind.wrap_u64]
  have e1 : IntKind.u64.wrap ((IntKind.u64.wrap pk).tdiv 3) = IntKind.u64.wrap pk / 3 := IntWalk.u64_quo _ _ ⟨by omega, by omega, by omega⟩
  have e2 : (IntKind.u64.wrap pk / 3).tmod 8 = IntKind.u64.wrap pk / 3 % 8 := Int.tmod_eq_emod_of_nonneg (by omega)
  have e3 : IntKind.i64.wrap (IntKind.u64.wrap pk / 3 % 8) = IntKind.u64.wrap pk / 3 % 8 := IntWalk.i64_in _ (by omega)
  obtain ⟨kx, hkx⟩ := Int.eq_ofNat_of_zero_le (show 0 ≤ IntKind.u64.wrap pk / 3 % 8 by omega)
  have hk8 : kx < 8 := by omega
  obtain ⟨t, ht, hts⟩ := bCells_at kx hk8
  refine ⟨kx, _, t, hk8, by rw [e1, e2, e3, hkx], rfl, ?_, by omega⟩
  simp only [World.cell?, h, ht]
  rfl
set_option maxRecDepth 100000 in
set_option maxHeartbeats 4000000 in
theorem lawNotes (A0 : Option Addr) (c0 : Nat) (l : List S28) (A1 : Option Addr) (c1 : Nat) (ps : List Int) (w : World) (hG : GW w) (hr : Kd.C k28 w A0 l.length l) (hc0 : l.length ≤ c0) (hs : ∀ x ∈ l, x.f2.size ≤ 140737488355328) (hp : Kd.C (Kd.int .i64) w A1 ps.length ps) :
    Calls Tryd.prog 3 #[.slice A0 l.length c0, .slice A1 ps.length c1] w fun e w' => e = .returned (.bool true) ∧ Below w.heap.size w w' := by
  go_enter Tryd.func3, Tryd.ntmps3
  by_cases h200 : l.length ≤ 200
  · have h200b : ¬ 200 < (l.length : Int) := by omega
    have h200c : decide (200 < (l.length : Int)) = false := decide_eq_false h200b
    go_wp2_with fail
    have hblk := World.alloc_heap_new w (.cells #[.string ⟨#[105, 110, 100, 101, 120, 32, 53, 32, 97, 112, 112, 108, 101]⟩, .string ⟨#[105, 110, 100, 101, 120, 32, 48, 53, 32, 97, 59, 98]⟩, .string ⟨#[105, 110, 100, 101, 120, 32, 120, 32, 97]⟩, .string ⟨#[105, 110, 100, 101, 120, 32, 55, 32]⟩, .string ⟨#[105, 110, 100, 101, 120, 32, 32, 97]⟩, .string ⟨#[111, 116, 104, 101, 114, 32, 53, 32, 97]⟩, .string ⟨#[105, 110, 100, 101, 120, 32, 49, 48, 48, 48, 48, 48, 49, 32, 97]⟩, .string ⟨#[105, 110, 100, 101, 120, 32, 49, 50, 32, 97, 32, 98, 124, 115, 101, 101, 32, 99]⟩] 9)
    have hb0 : Below w.heap.size w (w.alloc (.cells #[.string ⟨#[105, 110, 100, 101, 120, 32, 53, 32, 97, 112, 112, 108, 101]⟩, .string ⟨#[105, 110, 100, 101, 120, 32, 48, 53, 32, 97, 59, 98]⟩, .string ⟨#[105, 110, 100, 101, 120, 32, 120, 32, 97]⟩, .string ⟨#[105, 110, 100, 101, 120, 32, 55, 32]⟩, .string ⟨#[105, 110, 100, 101, 120, 32, 32, 97]⟩, .string ⟨#[111, 116, 104, 101, 114, 32, 53, 32, 97]⟩, .string ⟨#[105, 110, 100, 101, 120, 32, 49, 48, 48, 48, 48, 48, 49, 32, 97]⟩, .string ⟨#[105, 110, 100, 101, 120, 32, 49, 50, 32, 97, 32, 98, 124, 115, 101, 101, 32, 99]⟩] 9)) := (Below.refl _ _).alloc (Nat.le_refl _) _
    have hsz : (w.alloc (.cells #[.string ⟨#[105, 110, 100, 101, 120, 32, 53, 32, 97, 112, 112, 108, 101]⟩, .string ⟨#[105, 110, 100, 101, 120, 32, 48, 53, 32, 97, 59, 98]⟩, .string ⟨#[105, 110, 100, 101, 120, 32, 120, 32, 97]⟩, .string ⟨#[105, 110, 100, 101, 120, 32, 55, 32]⟩, .string ⟨#[105, 110, 100, 101, 120, 32, 32, 97]⟩, .string ⟨#[111, 116, 104, 101, 114, 32, 53, 32, 97]⟩, .string ⟨#[105, 110, 100, 101, 120, 32, 49, 48, 48, 48, 48, 48, 49, 32, 97]⟩, .string ⟨#[105, 110, 100, 101, 120, 32, 49, 50, 32, 97, 32, 98, 124, 115, 101, 101, 32, 99]⟩] 9)).heap.size = w.heap.size + 1 := by simp
    have hr1 := Kd.C_alloc hr (.cells #[.string ⟨#[105, 110, 100, 101, 120, 32, 53, 32, 97, 112, 112, 108, 101]⟩, .string ⟨#[105, 110, 100, 101, 120, 32, 48, 53, 32, 97, 59, 98]⟩, .string ⟨#[105, 110, 100, 101, 120, 32, 120, 32, 97]⟩, .string ⟨#[105, 110, 100, 101, 120, 32, 55, 32]⟩, .string ⟨#[105, 110, 100, 101, 120, 32, 32, 97]⟩, .string ⟨#[111, 116, 104, 101, 114, 32, 53, 32, 97]⟩, .string ⟨#[105, 110, 100, 101, 120, 32, 49, 48, 48, 48, 48, 48, 49, 32, 97]⟩, .string ⟨#[105, 110, 100, 101, 120, 32, 49, 50, 32, 97, 32, 98, 124, 115, 101, 101, 32, 99]⟩] 9)
    have hp1 := Kd.C_alloc hp (.cells #[.string ⟨#[105, 110, 100, 101, 120, 32, 53, 32, 97, 112, 112, 108, 101]⟩, .string ⟨#[105, 110, 100, 101, 120, 32, 48, 53, 32, 97, 59, 98]⟩, .string ⟨#[105, 110, 100, 101, 120, 32, 120, 32, 97]⟩, .string ⟨#[105, 110, 100, 101, 120, 32, 55, 32]⟩, .string ⟨#[105, 110, 100, 101, 120, 32, 32, 97]⟩, .string ⟨#[111, 116, 104, 101, 114, 32, 53, 32, 97]⟩, .string ⟨#[105, 110, 100, 101, 120, 32, 49, 48, 48, 48, 48, 48, 49, 32, 97]⟩, .string ⟨#[105, 110, 100, 101, 120, 32, 49, 50, 32, 97, 32, 98, 124, 115, 101, 101, 32, 99]⟩] 9)
    have hG1 := hG.under hb0
    change (w.alloc (.cells #[.string ⟨#[105, 110, 100, 101, 120, 32, 53, 32, 97, 112, 112, 108, 101]⟩, .string ⟨#[105, 110, 100, 101, 120, 32, 48, 53, 32, 97, 59, 98]⟩, .string ⟨#[105, 110, 100, 101, 120, 32, 120, 32, 97]⟩, .string ⟨#[105, 110, 100, 101, 120, 32, 55, 32]⟩, .string ⟨#[105, 110, 100, 101, 120, 32, 32, 97]⟩, .string ⟨#[111, 116, 104, 101, 114, 32, 53, 32, 97]⟩, .string ⟨#[105, 110, 100, 101, 120, 32, 49, 48, 48, 48, 48, 48, 49, 32, 97]⟩, .string ⟨#[105, 110, 100, 101, 120, 32, 49, 50, 32, 97, 32, 98, 124, 115, 101, 101, 32, 99]⟩] 9)).heap[w.heap.size]? = some (.cells bCells 9 (0, 0)) at hblk
    generalize w.alloc (.cells #[.string ⟨#[105, 110, 100, 101, 120, 32, 53, 32, 97, 112, 112, 108, 101]⟩, .string ⟨#[105, 110, 100, 101, 120, 32, 48, 53, 32, 97, 59, 98]⟩, .string ⟨#[105, 110, 100, 101, 120, 32, 120, 32, 97]⟩, .string ⟨#[105, 110, 100, 101, 120, 32, 55, 32]⟩, .string ⟨#[105, 110, 100, 101, 120, 32, 32, 97]⟩, .string ⟨#[111, 116, 104, 101, 114, 32, 53, 32, 97]⟩, .string ⟨#[105, 110, 100, 101, 120, 32, 49, 48, 48, 48, 48, 48, 49, 32, 97]⟩, .string ⟨#[105, 110, 100, 101, 120, 32, 49, 50, 32, 97, 32, 98, 124, 115, 101, 101, 32, 99]⟩] 9) = W1 at hblk hb0 hsz hr1 hp1 hG1 ⊢
    clear hr hp hG
    go_loopw [0, 6] (fun v i wr => ∃ (L : List S28) (A : Option Addr) (c k : Nat), k ≤ 20 ∧ v = .slice A L.length c ∧ L.length ≤ 200 + k ∧ L.length ≤ c ∧ (∀ x ∈ L, x.f2.size ≤ 140737488355328) ∧ Kd.C k28 wr A L.length L ∧ i = .int .i64 k ∧ Below W1.heap.size W1 wr) (fun _ i _ => 20 - (intOf i).toNat)
    case atStart => exact ⟨l, A0, c0, 0, by omega, rfl, by omega, hc0, hs, hr1, rfl, Below.refl _ _⟩
    case round =>
      obtain ⟨L, A, c, k, hk, rfl, hLk, hLc, hLs, hC, rfl, hb⟩ := hrel
      by_cases h1 : k < ps.length
      · by_cases h2 : k < 20
        · have hpc := Kd.C_below hp1 hb
          obtain ⟨ad, e, hcp⟩ := Kd.at_int hpc k (by omega) (by omega)
          cases e
          rw [Int.toNat_natCast] at hcp
          have q1 : (k : Int) < (ps.length : Int) := by omega
          have q2 : (k : Int) < 20 := by omega
          go_wp2_with fail
          have hS : ∀ W, RowKit.Below wr.heap.size wr W → W.cell? (ad.add k) = some (.int .i64 (rd ps k)) := fun W h => (h.cell (World.block_lt_of_cell? _ _ hcp)).trans hcp
          obtain ⟨kx, n8, tx, hkx, hix, hn8, htx, hts⟩ := pick_facts (rd ps k) wr w.heap.size (by
            rw [hb.block _ (by omega)]; exact hblk)
          have hT : ∀ W, RowKit.Below wr.heap.size wr W → W.cell? ⟨w.heap.size, kx, none⟩ = some (.string tx) := fun W h => (h.cell (World.block_lt_of_cell? _ _ htx)).trans htx
          have HS := Lib.hid hS
          have HT := Lib.hid hT
          have q3 : (0 : Int) ≤ (kx : Int) := by omega
          have q4 : (kx : Int) < 8 := by omega
          clear hS hT hp1 hr1 hblk hpc
          generalize rd ps (k : Int) = pk at HS hcp hix hn8
          go_region_held3 (fun W => W.cell? (ad.add k) = some (.int .i64 pk) ∧ W.cell? ⟨w.heap.size, kx, none⟩ = some (.string tx))
            (first | exact ⟨HS.out _ (by repeat (first | assumption | (with_reducible first | exact Below.refl _ _ | apply below_alloc | apply below_drew1))), HT.out _ (by repeat (first | assumption | (with_reducible first | exact Below.refl _ _ | apply below_alloc | apply below_drew1)))⟩)
            (first | (refine step_first (by rfl) _ _ (by rfl) L A c _ wr _ (by rfl) (by rfl) hC (by repeat (first | assumption | (with_reducible first | exact Below.refl _ _ | apply below_alloc | apply below_drew1))) (by simp) (by first | exact heap_new' (by simp) | exact heap_old (heap_new' (by simp))) (by omega) ?_; intro v1 w1 hR1 hB1 hg1 hat1) | (refine step_second (by rfl) _ _ (by rfl) L ⟨0, n8, tx⟩ _ wr _ v1 (by rfl) (by rfl) (by first | exact hR1 | exact Kd.R_alloc hR1 _) (by repeat (first | assumption | (with_reducible first | exact Below.refl _ _ | apply below_alloc | apply below_drew1))) (by first | exact heap_new' (by simp) | exact (hg1.block _ (by first | (simp; done) | (simp; omega)) (by first | (simp; done) | (simp; omega))).trans (heap_new' (by simp)) | exact (hg1.block _ (by first | (simp; done) | (simp; omega)) (by first | (simp; done) | (simp; omega))).trans (heap_old (heap_new' (by simp)))) (by omega) ?_; intro A' c' w2 hC2 hc2 hB2))
          all_goals
            go_wp2_with fail
            go_roundw
            case rel => exact ⟨L ++ [⟨0, n8, tx⟩], A', c', k + 1, by omega, by rw [List.length_append]; rfl, by rw [List.length_append]; simp; omega, by rw [List.length_append]; exact hc2, by intro x hx; rcases List.mem_append.1 hx with h | h; exact hLs x h; rw [List.mem_singleton.1 h]; simpa using hts, by rw [List.length_append]; exact hC2, by go_num, hb.trans (hB2.mono hb.size)⟩
            case measure => simp [intOf]; omega
        · have q2 : ¬ (k : Int) < 20 := by omega
          have q1 : (k : Int) < (ps.length : Int) := by omega
          go_wp2_with fail
          refine (notes_walk A c L _ (hG1.under hb) hC (by omega) hLs).mono ?_; rintro e wa ⟨v, rfl, hown, hba⟩
          have hCa := Kd.C_below hC hba
          obtain ⟨nf, hnf⟩ := refNotes_ev L (by omega) hLs
          go_wp2_with fail
          refine (frisketref27_Notes.calls nf A c L _ wa hCa hLc (hnf nf (Nat.le_refl _))).mono ?_; rintro e wb ⟨v0, rfl, hR0, hbb⟩
          have hown2 := pw_own_below hown hbb
          obtain ⟨Ax, cx, rfl, hX⟩ := own_reads_row hown2 (reps_cellsE wb (notesOf L)) (by rw [List.length_map])
          obtain ⟨Ay, cy, rfl, hcy, hY⟩ := Kd.R_reads hR0
          have b2 := hb.trans ((hba.trans (hbb.mono hba.size)).mono hb.size)
          have hnl := notesOf_all L
          rw [List.length_map] at hY ⊢
          generalize (notesOf L).map toS = Y at hX hY
          generalize (notesOf L).length = n at hX hY hnl ⊢
          have hX2 : Kd.C k35 wb Ax n Y := hX
          have hb02 : RowKit.Below w.heap.size w wb := hb0.trans (b2.mono hb0.size)
          have hGb := hG1.under b2
          clear hX hown hown2 hR0 hC hCa hnf hba hbb hb hLs hblk hr1 hp1 hs b2
          go_wp2_with fail
          go_loopw [9] (fun i wr2 => ∃ j : Nat, j ≤ n ∧ i = .int .i64 j ∧ RowKit.Below wb.heap.size wb wr2) (fun i _ => n - (intOf i).toNat)
          case atStart => exact ⟨0, Nat.zero_le _, rfl, Below.refl _ _⟩
          case round =>
            obtain ⟨j, hj, rfl, hb3⟩ := hrel
            by_cases hlt : j < n
            · obtain ⟨a1, e, x0, x1⟩ := at_T35 (Kd.C_below hX2 hb3) j (by omega) (by omega)
              cases e
              obtain ⟨a2, e, y0, y1⟩ := at_T35 (Kd.C_below hY hb3) j (by omega) (by omega)
              cases e
              rw [Int.toNat_natCast] at x0 x1 y0 y1
              generalize rd_T35 Y (j : Int) = z at x0 x1 y0 y1
              have q3 : (j : Int) < (n : Int) := by omega
              have q5 : (z.f0.toList != z.f0.toList) = false := by simp
              have q6 : (z.f1 != z.f1) = false := by simp
              clear hX2 hY
              go_wp2_with fail
              go_quiet (fail)
              clear x0 x1 y0 y1 q5 q6
              go_wp2_with fail
              go_roundw
              case rel => exact ⟨j + 1, by omega, by go_num, pw_below_drewN hb3 _⟩
              case measure => simp [intOf]; omega
            · obtain rfl : j = n := by omega
              have q3 : ¬ (j : Int) < (j : Int) := by omega
              have hsn := sane_any wr (hGb.under hb3)
              clear hX2 hY
              go_wp2_with fail
              refine hsn.mono ?_; rintro e wz ⟨rfl, hbz⟩
              go_wp2_with fail
              go_ret
              exact ⟨rfl, hb02.trans ((hb3.trans (hbz.mono hb3.size)).mono hb02.size)⟩
      · have q1 : ¬ (k : Int) < (ps.length : Int) := by omega
        go_wp2_with fail
        refine (notes_walk A c L _ (hG1.under hb) hC (by omega) hLs).mono ?_; rintro e wa ⟨v, rfl, hown, hba⟩
        have hCa := Kd.C_below hC hba
        obtain ⟨nf, hnf⟩ := refNotes_ev L (by omega) hLs
        go_wp2_with fail
        refine (frisketref27_Notes.calls nf A c L _ wa hCa hLc (hnf nf (Nat.le_refl _))).mono ?_; rintro e wb ⟨v0, rfl, hR0, hbb⟩
        have hown2 := pw_own_below hown hbb
        obtain ⟨Ax, cx, rfl, hX⟩ := own_reads_row hown2 (reps_cellsE wb (notesOf L)) (by rw [List.length_map])
        obtain ⟨Ay, cy, rfl, hcy, hY⟩ := Kd.R_reads hR0
        have b2 := hb.trans ((hba.trans (hbb.mono hba.size)).mono hb.size)
        have hnl := notesOf_all L
        rw [List.length_map] at hY ⊢
        generalize (notesOf L).map toS = Y at hX hY
        generalize (notesOf L).length = n at hX hY hnl ⊢
        have hX2 : Kd.C k35 wb Ax n Y := hX
        have hb02 : RowKit.Below w.heap.size w wb := hb0.trans (b2.mono hb0.size)
        have hGb := hG1.under b2
        clear hX hown hown2 hR0 hC hCa hnf hba hbb hb hLs hblk hr1 hp1 hs b2
        go_wp2_with fail
        go_loopw [9] (fun i wr2 => ∃ j : Nat, j ≤ n ∧ i = .int .i64 j ∧ RowKit.Below wb.heap.size wb wr2) (fun i _ => n - (intOf i).toNat)
        case atStart => exact ⟨0, Nat.zero_le _, rfl, Below.refl _ _⟩
        case round =>
          obtain ⟨j, hj, rfl, hb3⟩ := hrel
          by_cases hlt : j < n
          · obtain ⟨a1, e, x0, x1⟩ := at_T35 (Kd.C_below hX2 hb3) j (by omega) (by omega)
            cases e
            obtain ⟨a2, e, y0, y1⟩ := at_T35 (Kd.C_below hY hb3) j (by omega) (by omega)
            cases e
            rw [Int.toNat_natCast] at x0 x1 y0 y1
            generalize rd_T35 Y (j : Int) = z at x0 x1 y0 y1
            have q3 : (j : Int) < (n : Int) := by omega
            have q5 : (z.f0.toList != z.f0.toList) = false := by simp
            have q6 : (z.f1 != z.f1) = false := by simp
            clear hX2 hY
            go_wp2_with fail
            go_quiet (fail)
            clear x0 x1 y0 y1 q5 q6
            go_wp2_with fail
            go_roundw
            case rel => exact ⟨j + 1, by omega, by go_num, pw_below_drewN hb3 _⟩
            case measure => simp [intOf]; omega
          · obtain rfl : j = n := by omega
            have q3 : ¬ (j : Int) < (j : Int) := by omega
            have hsn := sane_any wr (hGb.under hb3)
            clear hX2 hY
            go_wp2_with fail
            refine hsn.mono ?_; rintro e wz ⟨rfl, hbz⟩
            go_wp2_with fail
            go_ret
            exact ⟨rfl, hb02.trans ((hb3.trans (hbz.mono hb3.size)).mono hb02.size)⟩
  · have h200b : 200 < (l.length : Int) := by omega
    have h200c : decide (200 < (l.length : Int)) = true := decide_eq_true h200b
    go_wp2_with fail
    refine (sane_any _ hG).mono ?_; rintro e w2 ⟨rfl, hb2⟩
    go_wp2_with fail
    go_ret
    exact ⟨rfl, hb2⟩
end Go.Proofs.YtanekljbehhjcaaDoor
