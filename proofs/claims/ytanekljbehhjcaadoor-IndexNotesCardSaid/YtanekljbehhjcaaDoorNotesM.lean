/-
  A run's entries, the reference's way: the loops. No condition.
-/
import Derived.Test.YtanekljbehhjcaaDoorNotesL
namespace Go.Proofs.YtanekljbehhjcaaDoor
open Go.RowKit Go.Proofs.YtanekljbehhjcaaDoorW.PrintWords Go.Proofs.YtanekljbehhjcaaDoorW.PrintMore Go.Proofs.YtanekljbehhjcaaDoor.PX

set_option maxHeartbeats 1000000 in
theorem refNum_l (x0 : List S28) (x3 : List S35) (x4 : Int) (t : List UInt8) (kk : Nat) (hk : 6 + kk < t.length) (ht : t.length ≤ 900000000000000000) (r : List S35) : ∀ (d j : Nat) (n : Int) (ok : Bool), j + d = 6 + kk → 6 ≤ j → 0 ≤ n → n ≤ 1000000000 →
    Ev (fun q => frisketref27_Notes.l1 q x0 x3 x4 (bar t) (kk : Int) (((t.drop j).take d).foldl refStep (n, ok)).1 (((t.drop j).take d).foldl refStep (n, ok)).2 ((6 + kk : Nat) : Int)) r → Ev (fun q => frisketref27_Notes.l1 q x0 x3 x4 (bar t) (kk : Int) n ok (j : Int)) r := by
  intro d
  induction d with
  | zero =>
    intro j n ok h _ _ _ H
    rw [show j = 6 + kk by omega]
    simpa using H
  | succ d ih =>
    intro j n ok h h6 h0 h1 H
    have hj : j < t.length := by omega
    have hb := (t[j]).toNat_lt
    have j1 : j + 1 + d = 6 + kk := by omega
    have j2 : 6 ≤ j + 1 := by omega
    have j3 : (j : Int) < ((6 + kk : Nat) : Int) := by omega
    have j4 : (0 : Int) ≤ (j : Int) := by omega
    have j5 : (j : Int) < ((bar t).size : Int) := by rw [bar_size]; omega
    have e0 : wrap64 (6 + (kk : Int)) = ((6 + kk : Nat) : Int) := by rw [w64 (by omega) (by omega)]; omega
    have e1 : wrap64 ((wrap64 (n * 10)) + (((t[j].toNat : Int) - 48) % 256)) = n * 10 + ((t[j].toNat : Int) - 48) % 256 := by rw [w64 (x := n * 10) (by omega) (by omega), w64 (by omega) (by omega)]
    have e2 : wrap64 ((j : Int) + 1) = ((j + 1 : Nat) : Int) := by rw [w64 (by omega) (by omega)]; rfl
    have hstep := refStep_range (n, ok) t[j] h0
    rw [List.drop_eq_getElem_cons hj, List.take_succ_cons, List.foldl_cons] at H
    have H2 := ih (j + 1) (refStep (n, ok) t[j]).1 (refStep (n, ok) t[j]).2 j1 j2 hstep.1 hstep.2 H
    clear H ih hstep
    refine Ev.step (fun k => by rw [frisketref27_Notes.l1]) ?_
    rw [e0, bt_bar' t j hj, e1, e2]
    refine evPos j3 ?_
    cases ok with
    | true =>
      refine evPos rfl (evPos j4 (evPos j5 ?_))
      by_cases h48 : (48 : Int) ≤ t[j].toNat
      · refine evPos h48 ?_
        have e3 : (refStep (n, true) t[j]).2 = decide ((t[j].toNat : Int) ≤ 57) := by unfold refStep; simp only; rw [decide_eq_true h48]; simp
        rw [e3] at H2; exact H2
      · refine evNeg h48 ?_
        have e3 : (refStep (n, true) t[j]).2 = false := by unfold refStep; simp only; rw [decide_eq_false h48]; simp
        rw [e3] at H2; exact H2
    | false =>
      refine evNeg (by simp) (evPos j4 (evPos j5 ?_))
      have e3 : (refStep (n, false) t[j]).2 = false := by unfold refStep; simp
      rw [e3] at H2; exact H2
theorem refFold_range (l : List UInt8) : ∀ s : Int × Bool, 0 ≤ s.1 → s.1 ≤ 1000000000 → 0 ≤ (l.foldl refStep s).1 ∧ (l.foldl refStep s).1 ≤ 1000000000 := by
  induction l with
  | nil => intro s h0 h1; exact ⟨h0, h1⟩
  | cons b l ih =>
    intro s h0 h1
    have := refStep_range s b h0
    exact ih _ this.1 this.2
def toS (x : ByteArray × Int) : S35 := ⟨x.1, x.2⟩
theorem isNote_parts {x : S28} (h : isNote x = true) : x.f1 = 9 ∧ Lib.hasPrefix x.f2.data.toList preI = true ∧ (cutB (restN x) 32).2.2 = true ∧ atoiB (pageN x) = true ∧ Lib.itoa (atoiN (pageN x)) = pageN x ∧ 0 ≤ atoiN (pageN x) ∧ atoiN (pageN x) ≤ 1000000 := by
  unfold isNote at h
  simp only [Bool.and_eq_true, decide_eq_true_eq] at h
  exact h
theorem isNote_of {x : S28} (h : x.f1 = 9 ∧ Lib.hasPrefix x.f2.data.toList preI = true ∧ (cutB (restN x) 32).2.2 = true ∧ atoiB (pageN x) = true ∧ Lib.itoa (atoiN (pageN x)) = pageN x ∧ 0 ≤ atoiN (pageN x) ∧ atoiN (pageN x) ≤ 1000000) : isNote x = true := by
  unfold isNote
  simp only [Bool.and_eq_true, decide_eq_true_eq]
  exact h
theorem isNote_false {x : S28} (h : isNote x = true → False) : isNote x = false := by
  cases e : isNote x with
  | true => exact (h e).elim
  | false => rfl
theorem prefix_iff (t : List UInt8) : Lib.hasPrefix t preI = true ↔ t.take 6 = preI := by
  unfold Lib.hasPrefix
  rw [List.isPrefixOf_iff_prefix, List.prefix_iff_eq_take]
  exact ⟨fun h => h.symm, fun h => h.symm⟩
theorem cutB_at (l : List UInt8) (kk : Nat) (h : Lib.indexByte l 32 = (kk : Int)) : cutB l 32 = (l.take kk, l.drop (kk + 1), true) := by
  unfold cutB
  rw [h, if_pos (by omega), Int.toNat_natCast]
theorem cutB_no (l : List UInt8) (h : Lib.indexByte l 32 = -1) : cutB l 32 = (l, [], false) := by
  unfold cutB
  rw [h, if_neg (by omega)]
set_option maxHeartbeats 1000000 in
theorem ref_tail (l : List S28) (acc : List S35) (i : Nat) (t : List UInt8) (kk : Nat) (n : Int) (ok : Bool) (hi : (i : Int) + 1 < 9223372036854775808) (hlk : 6 + kk < t.length) (hn0 : 0 ≤ n) (hn1 : n ≤ 1000000000) (r : List S35) (ht : t.length ≤ 900000000000000000) (hacc : acc.length ≤ 1000000000)
    (Hy : ok = true → n ≤ 1000000 → Lib.decDigits n.toNat = (t.drop 6).take kk → Ev (fun q => frisketref27_Notes.l0 q l (acc ++ [⟨bar (t.drop (6 + kk + 1)), n⟩]) ((i + 1 : Nat) : Int)) r)
    (Hn : ¬(ok = true ∧ n ≤ 1000000 ∧ Lib.decDigits n.toNat = (t.drop 6).take kk) → Ev (fun q => frisketref27_Notes.l0 q l acc ((i + 1 : Nat) : Int)) r) :
    Ev (fun q => frisketref27_Notes.l1 q l acc (i : Int) (bar t) (kk : Int) n ok ((6 + kk : Nat) : Int)) r := by
  have e0 : wrap64 (6 + (kk : Int)) = ((6 + kk : Nat) : Int) := by rw [w64 (by omega) (by omega)]; omega
  have e5 : wrap64 (((6 + kk : Nat) : Int) + 1) = ((6 + kk + 1 : Nat) : Int) := by rw [w64 (by omega) (by omega)]; rfl
  have hi2 : wrap64 ((i : Int) + 1) = ((i + 1 : Nat) : Int) := by rw [w64 (by omega) (by omega)]; rfl
  have hdg := digits_ev n.toNat (by omega)
  have hnn : ((n.toNat : Nat) : Int) = n := by omega
  rw [hnn] at hdg
  have h0 : ¬ (((6 + kk : Nat) : Int) < ((6 + kk : Nat) : Int)) := by omega
  have hpg : (t.take (6 + kk)).drop 6 = (t.drop 6).take kk := by
    rw [List.drop_take]; congr 1; omega
  have hz1 : (0 : Int) ≤ ((6 + kk : Nat) : Int) := by omega
  have hz2 : (6 : Int) ≤ ((6 + kk : Nat) : Int) := by omega
  have hz3 : ((6 + kk : Nat) : Int) ≤ ((bar t).size : Int) := by rw [bar_size]; omega
  have hz4 : (0 : Int) ≤ ((6 + kk + 1 : Nat) : Int) := by omega
  have hz5 : ((6 + kk + 1 : Nat) : Int) ≤ ((bar t).size : Int) := by rw [bar_size]; omega
  refine Ev.step (fun k => by rw [frisketref27_Notes.l1]) ?_
  rw [e0, e5, hi2]
  refine evNeg h0 ?_
  cases ok with
  | false => exact evNeg (by simp) (Hn (by simp))
  | true =>
    refine evPos rfl ?_
    by_cases hn6 : n ≤ 1000000
    · refine evPos hn6 ?_
      refine Ev.bind hdg (evPos hz2 (evPos hz3 ?_))
      rw [bar_toList, Int.toNat_natCast, bar_extract, bar_toList, bar_size, Int.toNat_natCast, bar_extract, List.take_of_length_le (Nat.le_refl t.length), hpg]
      by_cases hd : Lib.decDigits n.toNat = (t.drop 6).take kk
      · exact evPos hd (evPos hz4 (evPos (by rw [← bar_size t]; exact hz5) (evPos (by omega) (Hy rfl hn6 hd))))
      · exact evNeg hd (Hn (fun q => hd q.2.2))
    · exact evNeg hn6 (Hn (fun q => hn6 q.2.1))
set_option maxHeartbeats 4000000 in
theorem ref_round (l : List S28) (acc : List S35) (i : Nat) (hi : i < l.length) (hl : l.length ≤ 1000000000) (hacc : acc.length ≤ 1000000000) (ht : l[i].f2.size ≤ 140737488355328) (r : List S35)
    (H : Ev (fun q => frisketref27_Notes.l0 q l (acc ++ if isNote l[i] then [toS (entryN l[i])] else []) ((i + 1 : Nat) : Int)) r) : Ev (fun q => frisketref27_Notes.l0 q l acc (i : Int)) r := by
  have hrd : rd_T28 l (i : Int) = l[i] := by unfold rd_T28; rw [Int.toNat_natCast, List.getD_eq_getElem?_getD, List.getElem?_eq_getElem hi]; rfl
  have hi2 : wrap64 ((i : Int) + 1) = ((i + 1 : Nat) : Int) := by rw [w64 (by omega) (by omega)]; rfl
  refine Ev.step (fun k => by rw [frisketref27_Notes.l0]) ?_
  refine evPos (by omega) (evPos (by omega) ?_)
  rw [hrd]
  generalize l[i] = x at H ht
  have hno : isNote x = false → ∀ s, Ev (fun q => frisketref27_Notes.j1 q l acc (i : Int) s true) r := fun hn s => by
    rw [hn] at H
    refine Ev.step (fun k => by rw [frisketref27_Notes.j1]) (evPos rfl ?_)
    rw [hi2]
    simpa using H
  by_cases h9 : x.f1 = 9
  · refine evPos h9 ?_
    obtain ⟨t, hx⟩ := bar_rec x.f2
    rw [hx] at ht ⊢
    have hxd : x.f2.data.toList = t := by rw [hx]; rfl
    rw [bar_size] at ht ⊢
    by_cases h7 : t.length < 7
    · refine evPos (by omega) (hno (isNote_false fun h => ?_) _)
      obtain ⟨_, p1, p2, _⟩ := isNote_parts h
      rw [hxd] at p1
      have hr : restN x = t.drop 6 := by unfold restN Lib.trimPrefix; rw [hxd, if_pos p1]; rfl
      rw [hr] at p2
      have h6 := (prefix_iff t).1 p1
      have h8 : t.drop 6 = [] := List.drop_eq_nil_of_le (by omega)
      rw [h8] at p2
      simp [cutB, Lib.indexByte] at p2
    · refine evNeg (by omega) (evPos (by decide) (evPos (by omega) ?_))
      rw [bar_extract, bar_toList]
      by_cases hp : t.take 6 = preI
      · have e1 : (((t.take 6).drop 0) != ([105, 110, 100, 101, 120, 32] : List UInt8)) = false := by rw [List.drop_zero, hp]; rfl
        rw [e1]
        have hpre := (prefix_iff t).2 hp
        have hr : restN x = t.drop 6 := by unfold restN Lib.trimPrefix; rw [hxd, if_pos hpre]; rfl
        refine Ev.step (fun k => by rw [frisketref27_Notes.j1]) (evNeg (by simp) (evPos (by rw [bar_size]; omega) ?_))
        rw [bar_size, bar_extract, List.take_of_length_le (Nat.le_refl _)]
        refine Ev.bind (index_ev (t.drop 6) 32 (by rw [List.length_drop]; omega)) ?_
        have hge := Lib.indexByte_ge (t.drop 6) 32
        by_cases hk1 : Lib.indexByte (t.drop 6) 32 < 1
        · refine evPos hk1 ?_
          have hn : isNote x = false := isNote_false fun h => by
            obtain ⟨_, _, p2, p3, _⟩ := isNote_parts h
            unfold pageN at p3
            rw [hr] at p2 p3
            by_cases h0 : Lib.indexByte (t.drop 6) 32 = -1
            · rw [cutB_no _ h0] at p2; cases p2
            · rw [cutB_at _ 0 (by omega)] at p3
              simp [atoiB, Lib.atoiAll] at p3
          rw [hn] at H
          rw [hi2]
          simpa using H
        · obtain ⟨kk, hkk⟩ := Int.eq_ofNat_of_zero_le (show 0 ≤ Lib.indexByte (t.drop 6) 32 by omega)
          have hcut := cutB_at _ kk hkk
          have hlt := index_lt (t.drop 6) 32 (by omega)
          rw [List.length_drop] at hlt
          rw [hkk] at hk1 hlt ⊢
          have hlk : 6 + kk < t.length := by omega
          refine evNeg hk1 (refNum_l l acc i t kk (by omega) (by omega) r kk 6 0 true (by omega) (Nat.le_refl _) (by decide) (by decide) ?_)
          have hpage : pageN x = (t.drop 6).take kk := by unfold pageN; rw [hr, hcut]
          rw [← hpage]
          have hfr := refFold_range (pageN x) (0, true) (by decide) (by decide)
          have hfold : isNote x = true → (pageN x).foldl refStep (0, true) = (atoiN (pageN x), true) ∧ pageN x = Lib.decDigits (atoiN (pageN x)).toNat := fun h => by
            obtain ⟨_, _, _, _, p4, p5, p6⟩ := isNote_parts h
            have hb := page_back _ p4 p5
            refine ⟨?_, hb⟩
            have := fold_dec (atoiN (pageN x)).toNat (by omega)
            rw [← hb] at this
            rw [this]; congr 1; omega
          have hback : ((pageN x).foldl refStep (0, true)).2 = true → ((pageN x).foldl refStep (0, true)).1 ≤ 1000000 → Lib.decDigits ((pageN x).foldl refStep (0, true)).1.toNat = pageN x → isNote x = true ∧ entryN x = (bar (t.drop (6 + kk + 1)), ((pageN x).foldl refStep (0, true)).1) := fun q1 q2 q3 => by
            obtain ⟨g1, g2, g3⟩ := page_good (pageN x) ((pageN x).foldl refStep (0, true)).1.toNat (by omega) q3.symm
            have g4 : atoiN (pageN x) = ((pageN x).foldl refStep (0, true)).1 := by rw [g2]; omega
            refine ⟨isNote_of ⟨h9, by rw [hxd]; exact hpre, by rw [hr, hcut], g1, by rw [g2]; exact g3, by omega, by omega⟩, ?_⟩
            unfold entryN
            rw [g4, hr, hcut]
            simp only [List.drop_drop]
            congr 2
          generalize (pageN x).foldl refStep (0, true) = st at hfr hfold hback ⊢
          obtain ⟨n, ok⟩ := st
          refine ref_tail l acc i t kk n ok (by omega) hlk hfr.1 hfr.2 r (by omega) hacc (fun q1 q2 q3 => ?_) (fun q => ?_)
          · obtain ⟨g1, g2⟩ := hback q1 q2 (by rw [hpage]; exact q3)
            rw [g1, if_pos rfl, g2] at H
            exact H
          · have hn : isNote x = false := isNote_false fun h => q (by
              obtain ⟨g1, g2⟩ := hfold h
              have e1 : n = atoiN (pageN x) := (Prod.mk.inj g1).1
              have e2 : ok = true := (Prod.mk.inj g1).2
              refine ⟨e2, ?_, ?_⟩
              · rw [e1]; exact (isNote_parts h).2.2.2.2.2.2
              · rw [e1, ← hpage]; exact g2.symm)
            rw [hn] at H
            simpa using H
      · have e1 : (((t.take 6).drop 0) != ([105, 110, 100, 101, 120, 32] : List UInt8)) = true := by rw [List.drop_zero]; exact bne_iff_ne.2 hp
        rw [e1]
        refine hno (isNote_false fun h => hp ?_) _
        have := (isNote_parts h).2.1
        rw [hxd] at this
        exact (prefix_iff t).1 this
  · refine evNeg h9 (hno (isNote_false fun h => h9 (isNote_parts h).1) _)
theorem refNotes_l (l : List S28) (hl : l.length ≤ 1000000000) (hs : ∀ x ∈ l, x.f2.size ≤ 140737488355328) : ∀ (d i : Nat), i + d = l.length →
    Ev (fun k => frisketref27_Notes.l0 k l ((notesOf (l.take i)).map toS) (i : Int)) ((notesOf l).map toS) := by
  intro d
  induction d with
  | zero =>
    intro i h
    refine Ev.step (fun k => by rw [frisketref27_Notes.l0]) ?_
    refine evNeg (by omega) ?_
    rw [List.take_of_length_le (by omega)]
    exact Ev.now _
  | succ d ih =>
    intro i h
    have hi : i < l.length := by omega
    have hle := notesOf_le l i
    refine ref_round l _ i hi hl (by rw [List.length_map]; omega) (hs _ (List.getElem_mem hi)) _ ?_
    refine Ev.congr (fun k => ?_) (ih (i + 1) (by omega))
    have hx := List.getElem?_eq_getElem hi
    cases hn : isNote l[i] with
    | true => rw [notesOf_yes l i _ hx hn, if_pos rfl, List.map_append]; rfl
    | false => rw [notesOf_no l i _ hx hn, if_neg (by simp), List.append_nil]
theorem refNotes_ev (l : List S28) (hl : l.length ≤ 1000000000) (hs : ∀ x ∈ l, x.f2.size ≤ 140737488355328) : Ev (fun k => frisketref27_Notes.f k l) ((notesOf l).map toS) := by
  unfold frisketref27_Notes.f
  exact refNotes_l l hl hs l.length 0 (by omega)
end Go.Proofs.YtanekljbehhjcaaDoor
