/-
  Texts that lean on one another, laid in one file. No condition.
-/
import Derived.Test.YtaifemkokfoadaaGreatDoorGSA1
import Derived.RangeFuncRecord
import Derived.Laws.EntriesVeiled
namespace Go.Proofs.YtaifemkokfoadaaGreatDoor
open Go.RowKit Go.Shelf Go.Proofs.YtaifemkokfoadaaGreatDoorW.PrintWords Go.Proofs.YtaifemkokfoadaaGreatDoorW.PrintLast Go.Proofs.YtaifemkokfoadaaGreatDoorW.PrintMore Go.Proofs.YtaifemkokfoadaaGreatDoor.PX
set_option linter.unusedSimpArgs false
set_option linter.unusedVariables false
/-- The text of the special font's glyphs. -/
abbrev specS : ByteArray := ⟨(([33, 61, 32, 54, 48, 48, 32, 42, 97, 32, 53, 53, 48, 32, 42, 98, 32, 53, 53, 48, 32, 42, 100, 32, 53, 48, 48, 32, 42, 103, 32, 53, 48, 48, 32, 42, 108, 32, 53, 53, 48, 32, 42, 112, 32, 54, 48, 48, 32, 42, 115, 32, 54, 48, 48, 32, 42, 119, 32, 55, 48].append [48, 32, 45, 62, 32, 49, 48, 48, 48, 32, 60, 45, 32, 49, 48, 48, 48, 32, 60, 61, 32, 54, 48, 48, 32, 62, 61, 32, 54, 48, 48, 32, 98, 114, 32, 49, 48, 32, 98, 117, 32, 52, 54, 48, 32, 99, 111, 32, 56, 48, 48, 32, 100, 103, 32, 53, 48, 48, 32, 100, 105, 32]).append ([54, 48, 48, 32, 101, 109, 32, 49, 48, 48, 48, 32, 101, 110, 32, 53, 48, 48, 32, 101, 113, 32, 54, 48, 48, 32, 104, 121, 32, 51, 53, 48, 32, 105, 102, 32, 55, 48, 48, 32, 105, 115, 32, 52, 48, 48, 32, 109, 105, 32, 54, 48, 48, 32, 109, 117, 32, 54, 48, 48, 32, 112].append [100, 32, 55, 48, 48, 32, 112, 108, 32, 54, 48, 48, 32, 114, 104, 32, 49, 48, 48, 48, 32, 114, 117, 32, 53, 48, 48, 32, 115, 99, 32, 53, 48, 48, 32, 115, 113, 32, 54, 48, 48, 32, 115, 114, 32, 53, 48, 48, 32, 115, 117, 32, 55, 48, 48, 32, 117, 108, 32, 53, 48, 48])).toArray⟩
def symW : List (List UInt8) := Lib.fields specS.data.toList
theorem symW_len : symW.length = 70 := by decide +kernel
theorem symW_small : ∀ x ∈ symW, x.length ≤ 6 := by decide +kernel
theorem specS_ascii : ∀ (j : Nat) (b : UInt8), specS.data.toList[j]? = some b → b.toNat < 128 := by
  have h : ∀ b ∈ specS.data.toList, b.toNat < 128 := by decide +kernel
  intro j b hj
  exact h b (List.mem_of_getElem? hj)
theorem lit_more (x : Int) (W : World) (b : Nat) (ok : Nat → Prop) : Reps (k31.M W b ok) k31.sz (moreOf x) [.string (⟨#[102, 105]⟩ : ByteArray), .int .i64 x, .string (⟨#[102, 108]⟩ : ByteArray), .int .i64 x, .string (⟨#[102, 102]⟩ : ByteArray), .int .i64 x] := by
  have h : ∀ (j : Nat) (p : S31), (moreOf x)[j]? = some p → k31.M W b ok p (([.string (⟨#[102, 105]⟩ : ByteArray), .int .i64 x, .string (⟨#[102, 108]⟩ : ByteArray), .int .i64 x, .string (⟨#[102, 102]⟩ : ByteArray), .int .i64 x].drop (j * 2)).take 2) := by
    intro j p hj
    rcases j with _ | _ | _ | j
    · obtain rfl := Option.some.inj hj
      exact k31_mkM W b ok ⟨bFi, x⟩
    · obtain rfl := Option.some.inj hj
      exact k31_mkM W b ok ⟨bFl, x⟩
    · obtain rfl := Option.some.inj hj
      exact k31_mkM W b ok ⟨bFf, x⟩
    · simp [moreOf] at hj
  exact ⟨rfl, h⟩
/-- The ligatures; the kerns. -/
def ligsV : List S86 := [⟨⟨#[102]⟩, ⟨#[102]⟩, ⟨#[102, 102]⟩⟩, ⟨⟨#[102]⟩, ⟨#[105]⟩, ⟨#[102, 105]⟩⟩, ⟨⟨#[102]⟩, ⟨#[108]⟩, ⟨#[102, 108]⟩⟩]
def kernsV : List S76 := [(⟨(⟨#[65]⟩ : ByteArray), (⟨#[86]⟩ : ByteArray), (-80)⟩ : S76), (⟨(⟨#[65]⟩ : ByteArray), (⟨#[87]⟩ : ByteArray), (-60)⟩ : S76), (⟨(⟨#[84]⟩ : ByteArray), (⟨#[111]⟩ : ByteArray), (-70)⟩ : S76), (⟨(⟨#[86]⟩ : ByteArray), (⟨#[65]⟩ : ByteArray), (-80)⟩ : S76), (⟨(⟨#[89]⟩ : ByteArray), (⟨#[111]⟩ : ByteArray), (-90)⟩ : S76)]
/-- A font's box and its rows, all laid from lo on, ahead of hi. -/
def FB (W : World) (lo hi g : Nat) (x : S26) : Prop :=
  ∃ v3 v4 v5, W.heap[g]? = some (.cells #[.string x.f0, .bool x.f1, .int .i64 x.f2, v3, v4, v5] 26 (0, 0)) ∧ lo ≤ g ∧ g < hi ∧ Kd.R k31 31 W lo (fun k => lo ≤ k ∧ k < hi) v3 x.f3 ∧
    Kd.R k86 86 W lo (fun k => lo ≤ k ∧ k < hi) v4 x.f4 ∧ Kd.R k76 76 W lo (fun k => lo ≤ k ∧ k < hi) v5 x.f5
theorem R_kept {α : Type} {d : Kd α} {e lo hi : Nat} {W W' : World} {v : Value} {xs : List α} (h : d.R e W lo (fun k => lo ≤ k ∧ k < hi) v xs) (hb : Below hi W W') : d.R e W' lo (fun k => lo ≤ k ∧ k < hi) v xs :=
  Kd.R_step h (fun k hk _ => hb.block k hk.2)
theorem R_in {α : Type} {d : Kd α} {e lo : Nat} {W : World} {v : Value} {xs : List α} (h : d.R e W lo (fun _ => True) v xs) : d.R e W lo (fun k => lo ≤ k ∧ k < W.heap.size) v xs :=
  Kd.R_mono (Kd.R_bound h) (fun k hk => ⟨hk.2.1, hk.2.2.1⟩)
theorem FB.keep {W W' : World} {lo hi g : Nat} {x : S26} (h : FB W lo hi g x) (hb : Below hi W W') : FB W' lo hi g x := by
  obtain ⟨v3, v4, v5, h1, h2, h3, h4, h5, h6⟩ := h
  exact ⟨v3, v4, v5, (hb.block g h3).trans h1, h2, h3, R_kept h4 hb, R_kept h5 hb, R_kept h6 hb⟩
theorem FB.mk {W : World} {lo g : Nat} (x : S26) {v3 v4 v5 : Value} (h1 : W.heap[g]? = some (.cells #[.string x.f0, .bool x.f1, .int .i64 x.f2, v3, v4, v5] 26 (0, 0))) (h2 : lo ≤ g) (h3 : Kd.R k31 31 W lo (fun _ => True) v3 x.f3)
    (h4 : Kd.R k86 86 W lo (fun _ => True) v4 x.f4) (h5 : Kd.R k76 76 W lo (fun _ => True) v5 x.f5) : FB W lo W.heap.size g x :=
  ⟨v3, v4, v5, h1, h2, blk_lt h1, R_in h3, R_in h4, R_in h5⟩
def fontR : S26 := ⟨⟨#[82]⟩, false, 250, ysOf wdR 550, ligsV, kernsV⟩
def fontI : S26 := ⟨⟨#[73]⟩, false, 250, glys wdI 127, [], []⟩
def fontB : S26 := ⟨⟨#[66]⟩, false, 250, ysOf wdB 600, ligsV, []⟩
def fontM : S26 := ⟨⟨#[77]⟩, false, 600, glys wdM 127, [], []⟩
theorem lit_kerns (W : World) (b : Nat) (ok : Nat → Prop) : Reps (k76.M W b ok) k76.sz kernsV [.string (⟨#[65]⟩ : ByteArray), .string (⟨#[86]⟩ : ByteArray), .int .i64 (-80), .string (⟨#[65]⟩ : ByteArray), .string (⟨#[87]⟩ : ByteArray), .int .i64 (-60), .string (⟨#[84]⟩ : ByteArray), .string (⟨#[111]⟩ : ByteArray), .int .i64 (-70), .string (⟨#[86]⟩ : ByteArray), .string (⟨#[65]⟩ : ByteArray), .int .i64 (-80), .string (⟨#[89]⟩ : ByteArray), .string (⟨#[111]⟩ : ByteArray), .int .i64 (-90)] := by
  have h : ∀ (j : Nat) (p : S76), kernsV[j]? = some p → k76.M W b ok p ((([.string (⟨#[65]⟩ : ByteArray), .string (⟨#[86]⟩ : ByteArray), .int .i64 (-80), .string (⟨#[65]⟩ : ByteArray), .string (⟨#[87]⟩ : ByteArray), .int .i64 (-60), .string (⟨#[84]⟩ : ByteArray), .string (⟨#[111]⟩ : ByteArray), .int .i64 (-70), .string (⟨#[86]⟩ : ByteArray), .string (⟨#[65]⟩ : ByteArray), .int .i64 (-80), .string (⟨#[89]⟩ : ByteArray), .string (⟨#[111]⟩ : ByteArray), .int .i64 (-90)] : List Value).drop (j * 3)).take 3) := by
    intro j p hj
    rcases j with _ | _ | _ | _ | _ | j
    · obtain rfl := Option.some.inj hj
      exact k76_mkM W b ok (⟨(⟨#[65]⟩ : ByteArray), (⟨#[86]⟩ : ByteArray), (-80)⟩ : S76)
    · obtain rfl := Option.some.inj hj
      exact k76_mkM W b ok (⟨(⟨#[65]⟩ : ByteArray), (⟨#[87]⟩ : ByteArray), (-60)⟩ : S76)
    · obtain rfl := Option.some.inj hj
      exact k76_mkM W b ok (⟨(⟨#[84]⟩ : ByteArray), (⟨#[111]⟩ : ByteArray), (-70)⟩ : S76)
    · obtain rfl := Option.some.inj hj
      exact k76_mkM W b ok (⟨(⟨#[86]⟩ : ByteArray), (⟨#[65]⟩ : ByteArray), (-80)⟩ : S76)
    · obtain rfl := Option.some.inj hj
      exact k76_mkM W b ok (⟨(⟨#[89]⟩ : ByteArray), (⟨#[111]⟩ : ByteArray), (-90)⟩ : S76)
    · simp [kernsV] at hj
  exact ⟨rfl, h⟩
/-- A font's cells, and that they are a font's wherever nothing of it has turned. -/
theorem FB.cells {W : World} {lo hi g : Nat} {x : S26} (h : FB W lo hi g x) : ∃ A3 n3 c3 A4 n4 c4 A5 n5 c5, W.heap[g]? = some (.cells #[.string x.f0, .bool x.f1, .int .i64 x.f2, .slice A3 n3 c3, .slice A4 n4 c4, .slice A5 n5 c5] 26 (0, 0)) ∧
    ∀ (W' : World) (base : Nat) (ok : Nat → Prop), Below W.heap.size W W' → base ≤ lo → (∀ k, lo ≤ k → k < hi → ok k) → k26.M W' base ok x [.string x.f0, .bool x.f1, .int .i64 x.f2, .slice A3 n3 c3, .slice A4 n4 c4, .slice A5 n5 c5] := by
  obtain ⟨v3, v4, v5, h1, h2, h3, h4, h5, h6⟩ := h
  obtain ⟨A3, c3, rfl⟩ := Kd.R_slice h4
  obtain ⟨A4, c4, rfl⟩ := Kd.R_slice h5
  obtain ⟨A5, c5, rfl⟩ := Kd.R_slice h6
  refine ⟨A3, _, c3, A4, _, c4, A5, _, c5, h1, fun W' base ok hb hl hok => ?_⟩
  exact k26_mkM W' base ok x (Kd.R_mono (Kd.R_lower (Kd.R_below h4 hb) hl) (fun k hk => hok k hk.1 hk.2)) (Kd.R_mono (Kd.R_lower (Kd.R_below h5 hb) hl) (fun k hk => hok k hk.1 hk.2)) (Kd.R_mono (Kd.R_lower (Kd.R_below h6 hb) hl) (fun k hk => hok k hk.1 hk.2))
/-- A box laid and filled: its cells. -/
theorem box_filled {W : World} {g : Nat} (h : W.heap[g]? = some (.cells #[.string (⟨#[]⟩ : ByteArray), .bool false, .int .i64 0, .slice none 0 0, .slice none 0 0, .slice none 0 0] 26 (0, 0))) (a : ByteArray) (b : Bool) (c : Int) (v3 v4 v5 : Value) :
    ((((((W.setCell ⟨g, 0, none⟩ (.string a)).setCell ⟨g, 1, none⟩ (.bool b)).setCell ⟨g, 2, none⟩ (.int .i64 c)).setCell ⟨g, 3, none⟩ v3).setCell ⟨g, 4, none⟩ v4).setCell ⟨g, 5, none⟩ v5).heap[g]? = some (.cells #[.string a, .bool b, .int .i64 c, v3, v4, v5] 26 (0, 0)) :=
  blk_put (blk_put (blk_put (blk_put (blk_put (blk_put (cs' := #[.string a, .bool false, .int .i64 0, .slice none 0 0, .slice none 0 0, .slice none 0 0]) h 0 _ rfl) (cs' := #[.string a, .bool b, .int .i64 0, .slice none 0 0, .slice none 0 0, .slice none 0 0]) 1 _ rfl)
    (cs' := #[.string a, .bool b, .int .i64 c, .slice none 0 0, .slice none 0 0, .slice none 0 0]) 2 _ rfl) (cs' := #[.string a, .bool b, .int .i64 c, v3, .slice none 0 0, .slice none 0 0]) 3 _ rfl) (cs' := #[.string a, .bool b, .int .i64 c, v3, v4, .slice none 0 0]) 4 _ rfl) 5 _ rfl
theorem box_below {W0 W : World} {B g : Nat} (h : Below B W0 W) (hg : B ≤ g) (u0 u1 u2 u3 u4 u5 : Value) :
    Below B W0 ((((((W.setCell ⟨g, 0, none⟩ u0).setCell ⟨g, 1, none⟩ u1).setCell ⟨g, 2, none⟩ u2).setCell ⟨g, 3, none⟩ u3).setCell ⟨g, 4, none⟩ u4).setCell ⟨g, 5, none⟩ u5) :=
  (((((h.setCell hg _).setCell hg _).setCell hg _).setCell hg _).setCell hg _).setCell hg _
def wordAt (j : Nat) : ByteArray := ⟨(symW.getD j []).toArray⟩
theorem wordAt_size (j : Nat) : (wordAt j).size ≤ 6 := by
  show ((symW.getD j []).toArray).size ≤ 6
  rw [List.size_toArray, List.getD_eq_getElem?_getD]
  cases h : symW[j]? with
  | none => simp
  | some x => exact symW_small x (List.mem_of_getElem? h)
/-- The first m glyphs of the special font. -/
def symG (m : Nat) : List S31 := (List.range m).map fun i => ⟨wordAt (2 * i), (numV (wordAt (2 * i + 1))).1⟩
theorem symG_succ (m : Nat) : symG (m + 1) = symG m ++ [⟨wordAt (2 * m), (numV (wordAt (2 * m + 1))).1⟩] := by unfold symG; rw [List.range_succ, List.map_append]; rfl
theorem symG_len (m : Nat) : (symG m).length = m := by simp [symG]
def fontS : S26 := ⟨⟨#[83]⟩, true, 250, symG 35, [], []⟩
def wordCells : Array Value := (symW.map fun l => Value.string ⟨l.toArray⟩).toArray
theorem words_at (j : Nat) (h : j < 70) : wordCells[j]? = some (.string (wordAt j)) := by
  have hl : j < symW.length := by rw [symW_len]; exact h
  unfold wordCells wordAt
  simp [List.getD_eq_getElem?_getD, hl]
/-- The standard fonts. -/
def stdV : List S26 := [fontR, fontI, fontB, fontM, fontS]
def std.T14 : Bool × List (List Nat × List Nat) := (true, [([], []), ([0], [0]), ([], []), ([], []), ([2, 3], [2, 3]), ([4], [4]), ([], []), ([5, 6], [5, 6]), ([7], [7]), ([1, 8], [1, 8]), ([0, 1, 2, 3, 4, 5, 6, 7, 8, 9], []), ([10, 9, 9, 0, 1, 2, 3, 4, 5, 6, 7, 8, 9], [9, 10])])
theorem std.tab14 : rtab .any (opsOf Tryz.f13 14) = std.T14 := by kernel_rfl
/-- The loop's relation. -/
def stdJ (W4 : World) (g5 bw : Nat) (x : Value) (wr : World) : Prop :=
  ∃ (m k : Nat) (u : Value), x = .int .i64 (k : Int) ∧ k = 2 * m ∧ m ≤ 35 ∧ Kd.R k31 31 wr W4.heap.size (fun _ => True) u (symG m) ∧ wr.heap[g5]? = some (.cells #[.string (⟨#[83]⟩ : ByteArray), .bool true, .int .i64 250, u, .slice none 0 0, .slice none 0 0] 26 (0, 0)) ∧
    wr.heap[bw]? = some (.cells wordCells 9 (0, 0)) ∧ Below W4.heap.size W4 wr
set_option maxHeartbeats 8000000 in
set_option maxRecDepth 100000 in
theorem std_any (w : World) (hG : GW w) : Calls Tryz.prog 13 #[] w fun e w' => ∃ v : Value, e = .returned v ∧ Kd.S k26 26 w' w.heap.size (fun _ => True) v stdV ∧ Below w.heap.size w w' := by
  have hu26 := Tryz.underlying26
  have HGW := Aside0.mk hG
  clear hG
  have HB0_ := Aside0.mk (Below.refl w.heap.size w)
  generalize hW0 : w = W0_ at HB0_ HGW
  go_enter Tryz.func13, Tryz.ntmps13
  go_wp2_with (first | ((with_reducible refine gate_dst (N := 13) rfl ?_); refine Kd.R_lit k31 W0_.heap.size 31 ?hg (N := 13) ?hd (w0 := W0_) (xs := (moreOf 550)) (inner := [.string (⟨#[102, 105]⟩ : ByteArray), .int .i64 550, .string (⟨#[102, 108]⟩ : ByteArray), .int .i64 550, .string (⟨#[102, 102]⟩ : ByteArray), .int .i64 550]) (ok := fun _ => True) (okp := fun _ => True) ?hr ?hp (fun _ hk => hk) trivial HB0_.out HB0_.out.size (by simp [moreOf]) ?_; (case hd => rfl); (case hg => rfl); (case hr => first | (go_simp; done) | (go_simp; rfl)); (case hp => exact lit_more 550 _ _ _); intro u0 wl hol hbl hgl hatl; have HL_ := Aside0.mk hol; have HBL_ := Aside0.mk hbl; have HAL_ := Aside0.mk hatl; clear hol hbl hgl hatl HB0_))
  refine (made_any 30 _ Tryz.func30 (by kernel_rfl) rfl wdR wdR_any (⟨#[82]⟩ : ByteArray) 250 W0_.heap.size u0 (moreOf 550) (ysOf wdR 550) wl HBL_.out.size HL_.out (by simp [moreOf]) (ys_perm wdR 550) (ys_asc wdR 550)).mono ?_
  rintro e w1 ⟨v1, rfl, hr, hb, -, -⟩
  have HR1 := Aside0.mk hr
  have HB1 := Aside0.mk (HBL_.out.trans hb)
  clear hr hb HL_ HBL_ HAL_
  obtain ⟨A1, c1, e1⟩ := Kd.R_slice HR1.out
  generalize (ysOf wdR 550).length = n1 at e1
  subst e1
  go_wp2_with (first | ((with_reducible refine gate_dst (N := 1) rfl ?_); refine box_event ?hg (N := 1) ?hd (cs := #[.string (⟨#[]⟩ : ByteArray), .bool false, .int .i64 0, .slice none 0 0, .slice none 0 0, .slice none 0 0]) (t := 26) ?hr ?_; (case hd => rfl); (case hg => rfl); (case hr => first | (go_simp; done) | (go_simp; rfl)); intro g1 hgq w2 hbx hbq; have BX_g1 := Aside0.mk hbx; have HQ_g1 := Aside0.mk hbq; have GQ_g1 := Aside0.mk hgq; clear hbx hbq hgq; have hcg10 : w2.cell? ⟨g1, 0, none⟩ = some (.string (⟨#[]⟩ : ByteArray)) := (blk_cell BX_g1.out 0).trans rfl; have hcg11 : w2.cell? ⟨g1, 1, none⟩ = some (.bool false) := (blk_cell BX_g1.out 1).trans rfl; have hcg12 : w2.cell? ⟨g1, 2, none⟩ = some (.int .i64 0) := (blk_cell BX_g1.out 2).trans rfl; have hcg13 : w2.cell? ⟨g1, 3, none⟩ = some (.slice none 0 0) := (blk_cell BX_g1.out 3).trans rfl; have hcg14 : w2.cell? ⟨g1, 4, none⟩ = some (.slice none 0 0) := (blk_cell BX_g1.out 4).trans rfl; have hcg15 : w2.cell? ⟨g1, 5, none⟩ = some (.slice none 0 0) := (blk_cell BX_g1.out 5).trans rfl; have hzg10 := blk_frozen BX_g1.out 0; have hzg11 := blk_frozen BX_g1.out 1; have hzg12 := blk_frozen BX_g1.out 2; have hzg13 := blk_frozen BX_g1.out 3; have hzg14 := blk_frozen BX_g1.out 4; have hzg15 := blk_frozen BX_g1.out 5))
  have n0_ := Aside0.mk (box_filled BX_g1.out (⟨#[82]⟩ : ByteArray) false 250 (.slice A1 n1 c1) (.slice none 0 0) (.slice none 0 0))
  have n2_ := Aside0.mk (box_below (HQ_g1.out) (Nat.le_of_eq GQ_g1.out.symm) (.string (⟨#[82]⟩ : ByteArray)) (.bool false) (.int .i64 250) (.slice A1 n1 c1) (.slice none 0 0) (.slice none 0 0))
  have LG1 := Aside0.mk (Nat.le_trans HB1.out.size (Nat.le_of_eq GQ_g1.out.symm))
  clear hcg10 hcg11 hcg12 hcg13 hcg14 hcg15 hzg10 hzg11 hzg12 hzg13 hzg14 hzg15
  generalize ((((((w2.setCell ⟨g1, 0, none⟩ (.string (⟨#[82]⟩ : ByteArray))).setCell ⟨g1, 1, none⟩ (.bool false)).setCell ⟨g1, 2, none⟩ (.int .i64 250)).setCell ⟨g1, 3, none⟩ (.slice A1 n1 c1)).setCell ⟨g1, 4, none⟩ (.slice none 0 0)).setCell ⟨g1, 5, none⟩ (.slice none 0 0)) = w3 at n0_ n2_ ⊢
  have n1_ := Aside0.mk (Kd.R_below HR1.out n2_.out)
  have n3_ := Aside0.mk (HB1.out.trans (n2_.out.mono HB1.out.size))
  clear HR1 HB1 BX_g1 HQ_g1 GQ_g1 n2_
  have BX1 := n0_
  have HR1 := n1_
  have HB1 := n3_
  clear n0_ n1_ n3_
  refine (font_ligatures.calls ligsV w3 rfl).mono ?_
  rintro e w4 ⟨v4, rfl, hr, hb⟩
  have n0_ := Aside0.mk (blk_below BX1.out hb)
  have n1_ := Aside0.mk (Kd.R_below HR1.out hb)
  have n2_ := Aside0.mk (Kd.R_lower hr HB1.out.size)
  have n3_ := Aside0.mk (HB1.out.trans (hb.mono HB1.out.size))
  clear BX1 HR1 HB1 hr hb
  have BX1 := n0_
  have HR1 := n1_
  have HL1 := n2_
  have HB1 := n3_
  clear n0_ n1_ n2_ n3_
  obtain ⟨A4, c4, e4⟩ := Kd.R_slice HL1.out
  generalize ligsV.length = n4 at e4
  subst e4
  have hq4 : w4.cell? ⟨g1, 4, none⟩ = some (.slice none 0 0) := (blk_cell BX1.out 4).trans rfl
  have hqz4 := blk_frozen BX1.out 4
  go_wp2_with (first | ((with_reducible refine gate_dst (N := 22) rfl ?_); have n0_ := Aside0.mk (blk_put (cs' := #[.string (⟨#[82]⟩ : ByteArray), .bool false, .int .i64 250, .slice A1 n1 c1, .slice A4 n4 c4, .slice none 0 0]) BX1.out 4 (.slice A4 n4 c4) rfl); have n1_ := Aside0.mk (Kd.R_set HR1.out BX1.out (by decide) 4 (.slice A4 n4 c4)); have n2_ := Aside0.mk (Kd.R_set HL1.out BX1.out (by decide) 4 (.slice A4 n4 c4)); have n3_ := Aside0.mk (HB1.out.setCell (p := ⟨g1, 4, none⟩) LG1.out (.slice A4 n4 c4)); clear BX1 HR1 HL1 HB1 hq4 hqz4; have BX1 := n0_; have HR1 := n1_; have HL1 := n2_; have HB1 := n3_; clear n0_ n1_ n2_ n3_; generalize w4.setCell ⟨g1, 4, none⟩ (.slice A4 n4 c4) = w5 at BX1 HR1 HL1 HB1 ⊢; refine Kd.R_lit k76 W0_.heap.size 76 ?hg (N := 22) ?hd (w0 := W0_) (xs := kernsV) (inner := [.string (⟨#[65]⟩ : ByteArray), .string (⟨#[86]⟩ : ByteArray), .int .i64 (-80), .string (⟨#[65]⟩ : ByteArray), .string (⟨#[87]⟩ : ByteArray), .int .i64 (-60), .string (⟨#[84]⟩ : ByteArray), .string (⟨#[111]⟩ : ByteArray), .int .i64 (-70), .string (⟨#[86]⟩ : ByteArray), .string (⟨#[65]⟩ : ByteArray), .int .i64 (-80), .string (⟨#[89]⟩ : ByteArray), .string (⟨#[111]⟩ : ByteArray), .int .i64 (-90)]) (ok := fun _ => True) (okp := fun _ => True) ?hr ?hp (fun _ hk => hk) trivial HB1.out HB1.out.size (by simp [kernsV]) ?_; (case hd => rfl); (case hg => rfl); (case hr => first | (go_simp; done) | (go_simp; rfl)); (case hp => exact lit_kerns _ _ _); intro v5 wk hol hbl hgl hatl; obtain ⟨A5, c5, e5⟩ := Kd.R_slice hol; generalize kernsV.length = n5 at e5; subst e5; have n0_ := Aside0.mk (blk_grown BX1.out hgl (by simp)); have n1_ := Aside0.mk (Kd.R_grown HR1.out hgl (fun _ _ => by simp)); have n2_ := Aside0.mk (Kd.R_grown HL1.out hgl (fun _ _ => by simp)); have n3_ := Aside0.mk hol; have n4_ := Aside0.mk hbl; clear BX1 HR1 HL1 HB1 hol hbl hgl hatl; have BX1 := n0_; have HR1 := n1_; have HL1 := n2_; have HK1 := n3_; have HB1 := n4_; clear n0_ n1_ n2_ n3_ n4_; have hq5 : wk.cell? ⟨g1, 5, none⟩ = some (.slice none 0 0) := (blk_cell BX1.out 5).trans rfl; have hqz5 := blk_frozen BX1.out 5))
  have n0_ := Aside0.mk (blk_put (cs' := #[.string (⟨#[82]⟩ : ByteArray), .bool false, .int .i64 250, .slice A1 n1 c1, .slice A4 n4 c4, .slice A5 n5 c5]) BX1.out 5 (.slice A5 n5 c5) rfl)
  have n1_ := Aside0.mk (Kd.R_set HR1.out BX1.out (by decide) 5 (.slice A5 n5 c5))
  have n2_ := Aside0.mk (Kd.R_set HL1.out BX1.out (by decide) 5 (.slice A5 n5 c5))
  have n3_ := Aside0.mk (Kd.R_set HK1.out BX1.out (by decide) 5 (.slice A5 n5 c5))
  have n4_ := Aside0.mk (HB1.out.setCell (p := ⟨g1, 5, none⟩) LG1.out (.slice A5 n5 c5))
  clear BX1 HR1 HL1 HK1 HB1 hq5 hqz5
  generalize wk.setCell ⟨g1, 5, none⟩ (.slice A5 n5 c5) = W1_ at n0_ n1_ n2_ n3_ n4_ ⊢
  have FB1 := Aside0.mk (FB.mk fontR n0_.out LG1.out n1_.out n2_.out n3_.out)
  have BW0 := Aside0.mk n4_.out
  clear n0_ n1_ n2_ n3_ n4_ LG1
  refine (made_any 32 _ Tryz.func32 (by kernel_rfl) rfl wdI wdI_any (⟨#[73]⟩ : ByteArray) 250 W1_.heap.size (.slice none 0 0) [] (glys wdI 127) W1_ (Nat.le_refl _) (Kd.R_nil _ _ _ _ _) (by simp [moreOf]) (by rw [List.nil_append]) (gl_asc wdI)).mono ?_
  rintro e w6 ⟨v6, rfl, hr, hb, -, -⟩
  have HR2 := Aside0.mk hr
  have HB2 := Aside0.mk hb
  clear hr hb
  obtain ⟨A6, c6, e6⟩ := Kd.R_slice HR2.out
  generalize (glys wdI 127).length = n6 at e6
  subst e6
  go_wp2_with (first | ((with_reducible refine gate_dst (N := 2) rfl ?_); refine box_event ?hg (N := 2) ?hd (cs := #[.string (⟨#[]⟩ : ByteArray), .bool false, .int .i64 0, .slice none 0 0, .slice none 0 0, .slice none 0 0]) (t := 26) ?hr ?_; (case hd => rfl); (case hg => rfl); (case hr => first | (go_simp; done) | (go_simp; rfl)); intro g2 hgq w7 hbx hbq; have BX_g2 := Aside0.mk hbx; have HQ_g2 := Aside0.mk hbq; have GQ_g2 := Aside0.mk hgq; clear hbx hbq hgq; have hcg20 : w7.cell? ⟨g2, 0, none⟩ = some (.string (⟨#[]⟩ : ByteArray)) := (blk_cell BX_g2.out 0).trans rfl; have hcg21 : w7.cell? ⟨g2, 1, none⟩ = some (.bool false) := (blk_cell BX_g2.out 1).trans rfl; have hcg22 : w7.cell? ⟨g2, 2, none⟩ = some (.int .i64 0) := (blk_cell BX_g2.out 2).trans rfl; have hcg23 : w7.cell? ⟨g2, 3, none⟩ = some (.slice none 0 0) := (blk_cell BX_g2.out 3).trans rfl; have hcg24 : w7.cell? ⟨g2, 4, none⟩ = some (.slice none 0 0) := (blk_cell BX_g2.out 4).trans rfl; have hcg25 : w7.cell? ⟨g2, 5, none⟩ = some (.slice none 0 0) := (blk_cell BX_g2.out 5).trans rfl; have hzg20 := blk_frozen BX_g2.out 0; have hzg21 := blk_frozen BX_g2.out 1; have hzg22 := blk_frozen BX_g2.out 2; have hzg23 := blk_frozen BX_g2.out 3; have hzg24 := blk_frozen BX_g2.out 4; have hzg25 := blk_frozen BX_g2.out 5) | ((with_reducible refine gate_dst (N := 28) rfl ?_); have n0_ := Aside0.mk (box_filled BX_g2.out (⟨#[73]⟩ : ByteArray) false 250 (.slice A6 n6 c6) (.slice none 0 0) (.slice none 0 0)); have n2_ := Aside0.mk (box_below (HQ_g2.out) (Nat.le_of_eq GQ_g2.out.symm) (.string (⟨#[73]⟩ : ByteArray)) (.bool false) (.int .i64 250) (.slice A6 n6 c6) (.slice none 0 0) (.slice none 0 0)); have LG2 := Aside0.mk (Nat.le_trans HB2.out.size (Nat.le_of_eq GQ_g2.out.symm)); clear hcg20 hcg21 hcg22 hcg23 hcg24 hcg25 hzg20 hzg21 hzg22 hzg23 hzg24 hzg25; generalize ((((((w7.setCell ⟨g2, 0, none⟩ (.string (⟨#[73]⟩ : ByteArray))).setCell ⟨g2, 1, none⟩ (.bool false)).setCell ⟨g2, 2, none⟩ (.int .i64 250)).setCell ⟨g2, 3, none⟩ (.slice A6 n6 c6)).setCell ⟨g2, 4, none⟩ (.slice none 0 0)).setCell ⟨g2, 5, none⟩ (.slice none 0 0)) = W2_ at n0_ n2_ ⊢; have FB2 := Aside0.mk (FB.mk fontI n0_.out LG2.out (Kd.R_below HR2.out n2_.out) (Kd.R_nil _ _ _ _ _) (Kd.R_nil _ _ _ _ _)); have BW1 := Aside0.mk (HB2.out.trans (n2_.out.mono HB2.out.size)); clear HR2 HB2 BX_g2 HQ_g2 GQ_g2 LG2 n0_ n2_; refine Kd.R_lit k31 W2_.heap.size 31 ?hg (N := 28) ?hd (w0 := W2_) (xs := (moreOf 600)) (inner := [.string (⟨#[102, 105]⟩ : ByteArray), .int .i64 600, .string (⟨#[102, 108]⟩ : ByteArray), .int .i64 600, .string (⟨#[102, 102]⟩ : ByteArray), .int .i64 600]) (ok := fun _ => True) (okp := fun _ => True) ?hr ?hp (fun _ hk => hk) trivial (Below.refl _ _) (Nat.le_refl _) (by simp [moreOf]) ?_; (case hd => rfl); (case hg => rfl); (case hr => first | (go_simp; done) | (go_simp; rfl)); (case hp => exact lit_more 600 _ _ _); intro u0 wl hol hbl hgl hatl; have HL_ := Aside0.mk hol; have HBL_ := Aside0.mk hbl; have HAL_ := Aside0.mk hatl; clear hol hbl hgl hatl))
  refine (made_any 33 _ Tryz.func33 (by kernel_rfl) rfl wdB wdB_any (⟨#[66]⟩ : ByteArray) 250 W2_.heap.size u0 (moreOf 600) (ysOf wdB 600) wl HBL_.out.size HL_.out (by simp [moreOf]) (ys_perm wdB 600) (ys_asc wdB 600)).mono ?_
  rintro e w9 ⟨v9, rfl, hr, hb, -, -⟩
  have HR3 := Aside0.mk hr
  have HB3 := Aside0.mk (HBL_.out.trans hb)
  clear hr hb HL_ HBL_ HAL_
  obtain ⟨A9, c9, e9⟩ := Kd.R_slice HR3.out
  generalize (ysOf wdB 600).length = n9 at e9
  subst e9
  go_wp2_with (first | ((with_reducible refine gate_dst (N := 3) rfl ?_); refine box_event ?hg (N := 3) ?hd (cs := #[.string (⟨#[]⟩ : ByteArray), .bool false, .int .i64 0, .slice none 0 0, .slice none 0 0, .slice none 0 0]) (t := 26) ?hr ?_; (case hd => rfl); (case hg => rfl); (case hr => first | (go_simp; done) | (go_simp; rfl)); intro g3 hgq w10 hbx hbq; have BX_g3 := Aside0.mk hbx; have HQ_g3 := Aside0.mk hbq; have GQ_g3 := Aside0.mk hgq; clear hbx hbq hgq; have hcg30 : w10.cell? ⟨g3, 0, none⟩ = some (.string (⟨#[]⟩ : ByteArray)) := (blk_cell BX_g3.out 0).trans rfl; have hcg31 : w10.cell? ⟨g3, 1, none⟩ = some (.bool false) := (blk_cell BX_g3.out 1).trans rfl; have hcg32 : w10.cell? ⟨g3, 2, none⟩ = some (.int .i64 0) := (blk_cell BX_g3.out 2).trans rfl; have hcg33 : w10.cell? ⟨g3, 3, none⟩ = some (.slice none 0 0) := (blk_cell BX_g3.out 3).trans rfl; have hcg34 : w10.cell? ⟨g3, 4, none⟩ = some (.slice none 0 0) := (blk_cell BX_g3.out 4).trans rfl; have hcg35 : w10.cell? ⟨g3, 5, none⟩ = some (.slice none 0 0) := (blk_cell BX_g3.out 5).trans rfl; have hzg30 := blk_frozen BX_g3.out 0; have hzg31 := blk_frozen BX_g3.out 1; have hzg32 := blk_frozen BX_g3.out 2; have hzg33 := blk_frozen BX_g3.out 3; have hzg34 := blk_frozen BX_g3.out 4; have hzg35 := blk_frozen BX_g3.out 5))
  have n0_ := Aside0.mk (box_filled BX_g3.out (⟨#[66]⟩ : ByteArray) false 250 (.slice A9 n9 c9) (.slice none 0 0) (.slice none 0 0))
  have n2_ := Aside0.mk (box_below (HQ_g3.out) (Nat.le_of_eq GQ_g3.out.symm) (.string (⟨#[66]⟩ : ByteArray)) (.bool false) (.int .i64 250) (.slice A9 n9 c9) (.slice none 0 0) (.slice none 0 0))
  have LG3 := Aside0.mk (Nat.le_trans HB3.out.size (Nat.le_of_eq GQ_g3.out.symm))
  clear hcg30 hcg31 hcg32 hcg33 hcg34 hcg35 hzg30 hzg31 hzg32 hzg33 hzg34 hzg35
  generalize ((((((w10.setCell ⟨g3, 0, none⟩ (.string (⟨#[66]⟩ : ByteArray))).setCell ⟨g3, 1, none⟩ (.bool false)).setCell ⟨g3, 2, none⟩ (.int .i64 250)).setCell ⟨g3, 3, none⟩ (.slice A9 n9 c9)).setCell ⟨g3, 4, none⟩ (.slice none 0 0)).setCell ⟨g3, 5, none⟩ (.slice none 0 0)) = w11 at n0_ n2_ ⊢
  have n1_ := Aside0.mk (Kd.R_below HR3.out n2_.out)
  have n3_ := Aside0.mk (HB3.out.trans (n2_.out.mono HB3.out.size))
  clear HR3 HB3 BX_g3 HQ_g3 GQ_g3 n2_
  have BX3 := n0_
  have HR3 := n1_
  have HB3 := n3_
  clear n0_ n1_ n3_
  refine (font_ligatures.calls ligsV w11 rfl).mono ?_
  rintro e w12 ⟨v12, rfl, hr, hb⟩
  have n0_ := Aside0.mk (blk_below BX3.out hb)
  have n1_ := Aside0.mk (Kd.R_below HR3.out hb)
  have n2_ := Aside0.mk (Kd.R_lower hr HB3.out.size)
  have n3_ := Aside0.mk (HB3.out.trans (hb.mono HB3.out.size))
  clear BX3 HR3 HB3 hr hb
  have BX3 := n0_
  have HR3 := n1_
  have HL3 := n2_
  have HB3 := n3_
  clear n0_ n1_ n2_ n3_
  obtain ⟨A12, c12, e12⟩ := Kd.R_slice HL3.out
  generalize ligsV.length = n12 at e12
  subst e12
  have hq4 : w12.cell? ⟨g3, 4, none⟩ = some (.slice none 0 0) := (blk_cell BX3.out 4).trans rfl
  have hqz4 := blk_frozen BX3.out 4
  go_wp2_with fail
  have n0_ := Aside0.mk (blk_put (cs' := #[.string (⟨#[66]⟩ : ByteArray), .bool false, .int .i64 250, .slice A9 n9 c9, .slice A12 n12 c12, .slice none 0 0]) BX3.out 4 (.slice A12 n12 c12) rfl)
  have n1_ := Aside0.mk (Kd.R_set HR3.out BX3.out (by decide) 4 (.slice A12 n12 c12))
  have n2_ := Aside0.mk (Kd.R_set HL3.out BX3.out (by decide) 4 (.slice A12 n12 c12))
  have n3_ := Aside0.mk (HB3.out.setCell (p := ⟨g3, 4, none⟩) LG3.out (.slice A12 n12 c12))
  clear BX3 HR3 HL3 HB3 hq4 hqz4
  generalize w12.setCell ⟨g3, 4, none⟩ (.slice A12 n12 c12) = W3_ at n0_ n1_ n2_ n3_ ⊢
  have FB3 := Aside0.mk (FB.mk fontB n0_.out LG3.out n1_.out n2_.out (Kd.R_nil _ _ _ _ _))
  have BW2 := Aside0.mk n3_.out
  clear n0_ n1_ n2_ n3_ LG3
  refine (made_any 34 _ Tryz.func34 (by kernel_rfl) rfl wdM wdM_any (⟨#[77]⟩ : ByteArray) 600 W3_.heap.size (.slice none 0 0) [] (glys wdM 127) W3_ (Nat.le_refl _) (Kd.R_nil _ _ _ _ _) (by simp [moreOf]) (by rw [List.nil_append]) (gl_asc wdM)).mono ?_
  rintro e w13 ⟨v13, rfl, hr, hb, -, -⟩
  have HR4 := Aside0.mk hr
  have HB4 := Aside0.mk hb
  clear hr hb
  obtain ⟨A13, c13, e13⟩ := Kd.R_slice HR4.out
  generalize (glys wdM 127).length = n13 at e13
  subst e13
  go_wp2_with (first | ((with_reducible refine gate_dst (N := 4) rfl ?_); refine box_event ?hg (N := 4) ?hd (cs := #[.string (⟨#[]⟩ : ByteArray), .bool false, .int .i64 0, .slice none 0 0, .slice none 0 0, .slice none 0 0]) (t := 26) ?hr ?_; (case hd => rfl); (case hg => rfl); (case hr => first | (go_simp; done) | (go_simp; rfl)); intro g4 hgq w14 hbx hbq; have BX_g4 := Aside0.mk hbx; have HQ_g4 := Aside0.mk hbq; have GQ_g4 := Aside0.mk hgq; clear hbx hbq hgq; have hcg40 : w14.cell? ⟨g4, 0, none⟩ = some (.string (⟨#[]⟩ : ByteArray)) := (blk_cell BX_g4.out 0).trans rfl; have hcg41 : w14.cell? ⟨g4, 1, none⟩ = some (.bool false) := (blk_cell BX_g4.out 1).trans rfl; have hcg42 : w14.cell? ⟨g4, 2, none⟩ = some (.int .i64 0) := (blk_cell BX_g4.out 2).trans rfl; have hcg43 : w14.cell? ⟨g4, 3, none⟩ = some (.slice none 0 0) := (blk_cell BX_g4.out 3).trans rfl; have hcg44 : w14.cell? ⟨g4, 4, none⟩ = some (.slice none 0 0) := (blk_cell BX_g4.out 4).trans rfl; have hcg45 : w14.cell? ⟨g4, 5, none⟩ = some (.slice none 0 0) := (blk_cell BX_g4.out 5).trans rfl; have hzg40 := blk_frozen BX_g4.out 0; have hzg41 := blk_frozen BX_g4.out 1; have hzg42 := blk_frozen BX_g4.out 2; have hzg43 := blk_frozen BX_g4.out 3; have hzg44 := blk_frozen BX_g4.out 4; have hzg45 := blk_frozen BX_g4.out 5) | ((with_reducible refine gate_dst (N := 5) rfl ?_); have n0_ := Aside0.mk (box_filled BX_g4.out (⟨#[77]⟩ : ByteArray) false 600 (.slice A13 n13 c13) (.slice none 0 0) (.slice none 0 0)); have n2_ := Aside0.mk (box_below (HQ_g4.out) (Nat.le_of_eq GQ_g4.out.symm) (.string (⟨#[77]⟩ : ByteArray)) (.bool false) (.int .i64 600) (.slice A13 n13 c13) (.slice none 0 0) (.slice none 0 0)); have LG4 := Aside0.mk (Nat.le_trans HB4.out.size (Nat.le_of_eq GQ_g4.out.symm)); clear hcg40 hcg41 hcg42 hcg43 hcg44 hcg45 hzg40 hzg41 hzg42 hzg43 hzg44 hzg45; generalize ((((((w14.setCell ⟨g4, 0, none⟩ (.string (⟨#[77]⟩ : ByteArray))).setCell ⟨g4, 1, none⟩ (.bool false)).setCell ⟨g4, 2, none⟩ (.int .i64 600)).setCell ⟨g4, 3, none⟩ (.slice A13 n13 c13)).setCell ⟨g4, 4, none⟩ (.slice none 0 0)).setCell ⟨g4, 5, none⟩ (.slice none 0 0)) = W4_ at n0_ n2_ ⊢; have FB4 := Aside0.mk (FB.mk fontM n0_.out LG4.out (Kd.R_below HR4.out n2_.out) (Kd.R_nil _ _ _ _ _) (Kd.R_nil _ _ _ _ _)); have BW3 := Aside0.mk (HB4.out.trans (n2_.out.mono HB4.out.size)); clear HR4 HB4 BX_g4 HQ_g4 GQ_g4 LG4 n0_ n2_; refine box_event ?hg (N := 5) ?hd (cs := #[.string (⟨#[]⟩ : ByteArray), .bool false, .int .i64 0, .slice none 0 0, .slice none 0 0, .slice none 0 0]) (t := 26) ?hr ?_; (case hd => rfl); (case hg => rfl); (case hr => first | (go_simp; done) | (go_simp; rfl)); intro g5 hgq w15 hbx hbq; have BX_g5 := Aside0.mk hbx; have HQ_g5 := Aside0.mk hbq; have GQ_g5 := Aside0.mk hgq; clear hbx hbq hgq; have hcg50 : w15.cell? ⟨g5, 0, none⟩ = some (.string (⟨#[]⟩ : ByteArray)) := (blk_cell BX_g5.out 0).trans rfl; have hcg51 : w15.cell? ⟨g5, 1, none⟩ = some (.bool false) := (blk_cell BX_g5.out 1).trans rfl; have hcg52 : w15.cell? ⟨g5, 2, none⟩ = some (.int .i64 0) := (blk_cell BX_g5.out 2).trans rfl; have hcg53 : w15.cell? ⟨g5, 3, none⟩ = some (.slice none 0 0) := (blk_cell BX_g5.out 3).trans rfl; have hcg54 : w15.cell? ⟨g5, 4, none⟩ = some (.slice none 0 0) := (blk_cell BX_g5.out 4).trans rfl; have hcg55 : w15.cell? ⟨g5, 5, none⟩ = some (.slice none 0 0) := (blk_cell BX_g5.out 5).trans rfl; have hzg50 := blk_frozen BX_g5.out 0; have hzg51 := blk_frozen BX_g5.out 1; have hzg52 := blk_frozen BX_g5.out 2; have hzg53 := blk_frozen BX_g5.out 3; have hzg54 := blk_frozen BX_g5.out 4; have hzg55 := blk_frozen BX_g5.out 5))
  have n0_ := Aside0.mk (box_filled BX_g5.out (⟨#[83]⟩ : ByteArray) true 250 (.slice none 0 0) (.slice none 0 0) (.slice none 0 0))
  have n2_ := Aside0.mk (box_below (HQ_g5.out) (Nat.le_of_eq GQ_g5.out.symm) (.string (⟨#[83]⟩ : ByteArray)) (.bool true) (.int .i64 250) (.slice none 0 0) (.slice none 0 0) (.slice none 0 0))
  have LG5 := Aside0.mk (Nat.le_of_eq GQ_g5.out.symm)
  clear hcg50 hcg51 hcg52 hcg53 hcg54 hcg55 hzg50 hzg51 hzg52 hzg53 hzg54 hzg55
  generalize ((((((w15.setCell ⟨g5, 0, none⟩ (.string (⟨#[83]⟩ : ByteArray))).setCell ⟨g5, 1, none⟩ (.bool true)).setCell ⟨g5, 2, none⟩ (.int .i64 250)).setCell ⟨g5, 3, none⟩ (.slice none 0 0)).setCell ⟨g5, 4, none⟩ (.slice none 0 0)).setCell ⟨g5, 5, none⟩ (.slice none 0 0)) = w16 at n0_ n2_ ⊢
  clear BX_g5 HQ_g5 GQ_g5
  have BX5 := n0_
  have HB5 := n2_
  clear n0_ n2_
  have GWS := Aside0.mk (HGW.out.under (BW0.out.trans ((BW1.out.mono BW0.out.size).trans ((BW2.out.mono (Nat.le_trans BW0.out.size BW1.out.size)).trans (BW3.out.mono (Nat.le_trans BW0.out.size (Nat.le_trans BW1.out.size BW2.out.size)))))))
  refine (Tryz.strings_Fields specS w16 (by decide +kernel) specS_ascii (GWS.out.under HB5.out).spc).mono ?_
  rintro e w17 ⟨rfl, hw17⟩
  have hlen : (Lib.fields specS.data.toList).length = 70 := symW_len
  rw [hlen]
  clear hlen
  have hcw : ((Lib.fields specS.data.toList).map fun l => Value.string ⟨l.toArray⟩).toArray = wordCells := rfl
  rw [hcw] at hw17
  have BKW := Aside0.mk (show w17.heap[w16.heap.size]? = some (.cells wordCells 9 (0, 0)) by rw [hw17]; exact blk_new _ _)
  have n0_ := blk_alloc BX5.out (.cells wordCells 9)
  rw [← hw17] at n0_
  have n1_ := Aside0.mk (show Below W4_.heap.size W4_ w17 by rw [hw17]; exact HB5.out.alloc HB5.out.size _)
  clear BX5 HB5 hw17 hcw
  have BX5 := Aside0.mk n0_
  have HB5 := n1_
  clear n0_ n1_
  generalize w16.heap.size = bw at BKW ⊢
  go_wp2
  go_loopw [7, 8, 9] (fun x y z wr => stdJ W4_ g5 bw x wr) (fun x y z _ => 70 - (intOf x).toNat)
  case atStart => exact ⟨0, 0, _, rfl, rfl, by omega, Kd.R_nil _ _ _ _ _, BX5.out, BKW.out, HB5.out⟩
  case round =>
    obtain ⟨m, k, u, rfl, hk0, hm, HR0, BX0, BK0, HB0⟩ := hrel
    have HKK := Aside0.mk hk0
    have hkm : k ≤ 2 * m := by omega
    have hmk : 2 * m ≤ k := by omega
    clear hk0
    have HRc := Aside0.mk HR0
    have BX := Aside0.mk BX0
    have BK := Aside0.mk BK0
    have HBc := Aside0.mk HB0
    clear HR0 BX0 BK0 HB0 BX5 BKW HB5
    by_cases hlt : m < 35
    · have q1 : decide ((k : Int) < 70) = true := decide_eq_true (by omega)
      have q2 : IntKind.i64.wrap ((k : Int) + 1) = (k : Int) + 1 := IntWalk.i64_in _ (by omega)
      have hcell : wr.cell? ⟨bw, k + 1, none⟩ = some (.string (wordAt (k + 1))) := (blk_cell BK.out _).trans (words_at _ (by omega))
      go_wp2_with fail
      have hnum := number_any (wordAt (k + 1)) wr (by have := wordAt_size (k + 1); omega) (GWS.out.under HBc.out)
      refine hnum.mono ?_
      rintro e w18 ⟨rfl, hb⟩
      clear hnum hcell q2
      have n0_ := Aside0.mk (Kd.R_drew (Kd.R_below HRc.out hb))
      have n1_ := Aside0.mk (blk_drew (blk_below BX.out hb))
      have n2_ := Aside0.mk (blk_drew (blk_below BK.out hb))
      have n3_ := Aside0.mk ((HBc.out.trans (hb.mono HBc.out.size)).drew)
      clear HRc BX BK HBc hb
      have HRc := n0_
      have BX := n1_
      have BK := n2_
      have HBc := n3_
      clear n0_ n1_ n2_ n3_
      have hm70 : k < 70 := by omega
      have q5 : ((k : Int) < 70) = True := eq_true (by omega)
      go_wp2
      refine start_ (n := 12) (S := fun w' => w'.cell? ⟨g5, 3, none⟩ = some u ∧ w'.cell? ⟨bw, k, none⟩ = some (.string (wordAt k))) (ds := [11]) #[false, false, false, false, false, false, false, false, false, false, false, false] (by kernel_rfl) rfl rfl ⟨(blk_cell BX.out 3).trans rfl, (blk_cell BK.out _).trans (words_at _ hm70)⟩ (fun hHeld => ?_)
      refine with_tab std.tab14 (fun HT_ => ?_)
      generalize w18.drew = w16 at HRc BX BK HBc hHeld ⊢
      refine pure_ (i := 0) (N := some 50) (v := ?_) (a' := ?_) #[true, false, false, false, false, false, false, false, false, false, false, false] rfl rfl (any_of HT_.out (by kernel_rfl)) (fun _ _ _ h => h) (Or.inl ⟨by rfl, ?_⟩) ?_ ?_
      rotate_left
      · intro w'
        go_simp
        with_reducible rfl
      rotate_left
      · simp only [Act.put, List.setIfInBounds_toArray, List.set_cons_zero, List.set_cons_succ]
        rfl
      refine pure_ (i := 2) (N := some 52) (v := ?_) (a' := ?_) #[true, false, true, false, false, false, false, false, false, false, false, false] rfl rfl (any_of HT_.out (by kernel_rfl)) (fun _ _ _ h => h) (Or.inl ⟨by rfl, ?_⟩) ?_ ?_
      rotate_left
      · intro w'
        go_simp
        with_reducible rfl
      rotate_left
      · simp only [Act.put, List.setIfInBounds_toArray, List.set_cons_zero, List.set_cons_succ]
        rfl
      refine pure_ (i := 3) (N := some 53) (v := ?_) (a' := ?_) #[true, false, true, true, false, false, false, false, false, false, false, false] rfl rfl (any_of HT_.out (by kernel_rfl)) (fun _ _ _ h => h) (Or.inl ⟨by rfl, ?_⟩) ?_ ?_
      rotate_left
      · intro w'
        go_simp
        with_reducible rfl
      rotate_left
      · simp only [Act.put, List.setIfInBounds_toArray, List.set_cons_zero, List.set_cons_succ]
        rfl
      refine pure_ (i := 4) (N := some 54) (v := ?_) (a' := ?_) #[true, false, true, true, true, false, false, false, false, false, false, false] rfl rfl (any_of HT_.out (by kernel_rfl)) (fun _ _ _ h => h) (Or.inl ⟨by rfl, ?_⟩) ?_ ?_
      rotate_left
      · intro w'
        go_simp
        with_reducible rfl
      rotate_left
      · simp only [Act.put, List.setIfInBounds_toArray, List.set_cons_zero, List.set_cons_succ]
        rfl
      refine pure_ (i := 6) (N := some 56) (v := ?_) (a' := ?_) #[true, false, true, true, true, false, true, false, false, false, false, false] rfl rfl (any_of HT_.out (by kernel_rfl)) (fun _ _ _ h => h) (Or.inl ⟨by rfl, ?_⟩) ?_ ?_
      rotate_left
      · intro w'
        go_simp
        with_reducible rfl
      rotate_left
      · simp only [Act.put, List.setIfInBounds_toArray, List.set_cons_zero, List.set_cons_succ]
        rfl
      refine take_ (i := 1) (N := some 51) (v := ?_) (a' := ?_) #[true, true, true, true, true, false, true, false, false, false, false, false] rfl rfl (take_of HT_.out (by kernel_rfl)) (fun _ _ _ h => h) (Or.inl ⟨by rfl, ?_⟩) hHeld ?_ ?_
      rotate_left
      · rintro w' ⟨s0, s1⟩
        go_simp
        with_reducible rfl
      rotate_left
      · simp only [Act.put, List.setIfInBounds_toArray, List.set_cons_zero, List.set_cons_succ]
        rfl
      refine take_ (i := 5) (N := some 55) (v := ?_) (a' := ?_) #[true, true, true, true, true, true, true, false, false, false, false, false] rfl rfl (take_of HT_.out (by kernel_rfl)) (fun _ _ _ h => h) (Or.inl ⟨by rfl, ?_⟩) hHeld ?_ ?_
      rotate_left
      · rintro w' ⟨s0, s1⟩
        go_simp
        with_reducible rfl
      rotate_left
      · simp only [Act.put, List.setIfInBounds_toArray, List.set_cons_zero, List.set_cons_succ]
        rfl
      refine pure_ (i := 7) (N := some 57) (v := ?_) (a' := ?_) #[true, true, true, true, true, true, true, true, false, false, false, false] rfl rfl (any_of HT_.out (by kernel_rfl)) (fun _ _ _ h => h) (Or.inl ⟨by rfl, ?_⟩) ?_ ?_
      rotate_left
      · intro w'
        go_simp
        with_reducible rfl
      rotate_left
      · simp only [Act.put, List.setIfInBounds_toArray, List.set_cons_zero, List.set_cons_succ]
        rfl
      refine one_ (i := 8) (N := some 58) #[true, true, true, true, true, true, true, true, true, false, false, false] rfl rfl (one_of HT_.out (by kernel_rfl)) (by decide) (fun K hK => ?_)
      refine value_ (w1 := ?_) (v := ?_) (by rfl) rfl ?_ ?_
      rotate_left 2
      · go_simp
        constructor
        · rfl
        · rfl
      refine hK.out _ _ ⟨(blk_cell (blk_alloc BX.out _) 3).trans rfl, (blk_cell (blk_alloc BK.out _) _).trans (words_at _ hm70)⟩ (fun hHeld => ?_)
      clear hK K
      refine norm_ (a' := ?_) ?_ ?_
      rotate_left
      · show Act.put _ (some 58) _ = _
        simp only [Act.put, List.setIfInBounds_toArray, List.set_cons_zero, List.set_cons_succ]
        rfl
      refine one_ (i := 9) (N := some 59) #[true, true, true, true, true, true, true, true, true, true, false, false] rfl rfl (one_of HT_.out (by kernel_rfl)) (by decide) (fun K hK => ?_)
      refine Kd.R_append_step k31 (w0 := W4_) W4_.heap.size (by rfl) (.tmp 51) (.tmp 58) 22 31 (.agg #[(.string ⟨#[]⟩), (.int .i64 0)]) 24 rfl Tryz.underlying22 info31 rfl (by decide) (by omega) u (symG m) (⟨wordAt k, (numV (wordAt (k + 1))).1⟩ : S31) [.string (wordAt k), .int .i64 (numV (wordAt (k + 1))).1] (fun _ => True) (fun _ => False) rfl rfl ?aP (fun _ hk => hk.elim) ?aF ?aO ?aB ?aS ?aL ?_
      (case aP => exact k31_mkM _ _ _ (⟨wordAt k, (numV (wordAt (k + 1))).1⟩ : S31))
      (case aF => exact (fun _ _ => trivial))
      (case aO => exact HRc.out)
      (case aB => exact HBc.out)
      (case aS => exact HBc.out.size)
      (case aL => rw [symG_len]; omega)
      intro v1 w18 ho hb hg hat
      rw [HKK.out, ← symG_succ] at ho
      obtain ⟨Ao, co, eo⟩ := Kd.R_slice ho
      subst eo
      generalize (symG (m + 1)).length = nn at ho hat ⊢
      have n0_ := Aside0.mk (blk_grown BX.out hg (Kd.R_ne HRc.out BX.out (by decide)))
      have n1_ := Aside0.mk (blk_grown BK.out hg (Kd.R_ne HRc.out BK.out (by decide)))
      have n2_ := Aside0.mk hb
      have n3_ := Aside0.mk ho
      clear BX BK HBc HRc ho hb hg hat hHeld
      have BX := n0_
      have BK := n1_
      have HBc := n2_
      have HRc := n3_
      clear n0_ n1_ n2_ n3_
      refine hK.out _ _ ⟨(blk_cell BX.out 3).trans rfl, (blk_cell BK.out _).trans (words_at _ hm70)⟩ (fun hHeld => ?_)
      clear hK K
      refine norm_ (a' := ?_) ?_ ?_
      rotate_left
      · show Act.put _ (some 59) _ = _
        simp only [Act.put, List.setIfInBounds_toArray, List.set_cons_zero, List.set_cons_succ]
        rfl
      refine pure_ (i := 10) (N := some 60) (v := ?_) (a' := ?_) #[true, true, true, true, true, true, true, true, true, true, true, false] rfl rfl (any_of HT_.out (by kernel_rfl)) (fun _ _ _ h => h) (Or.inl ⟨by rfl, ?_⟩) ?_ ?_
      rotate_left
      · intro w'
        go_simp
        with_reducible rfl
      rotate_left
      · simp only [Act.put, List.setIfInBounds_toArray, List.set_cons_zero, List.set_cons_succ]
        rfl
      refine last_ (i := 11) (N := none) #[true, true, true, true, true, true, true, true, true, true, true, true] rfl rfl (one_of HT_.out (by kernel_rfl)) (by decide) (fun K hK => ?_)
      have hs19 : w18.cell? ⟨g5, 3, none⟩ = some u := (blk_cell BX.out 3).trans rfl
      have hfs19 := blk_frozen BX.out 3
      refine skip_ (w1 := ?_) (by rfl) rfl ?_ ?_
      rotate_left
      · go_simp
        rfl
      refine hK.out _ _ ?_
      clear hK K
      refine done_ (done_of HT_.out (by kernel_rfl)) ?_
      have n0_ := Aside0.mk (blk_put (cs' := #[.string (⟨#[83]⟩ : ByteArray), .bool true, .int .i64 250, .slice Ao nn co, .slice none 0 0, .slice none 0 0]) BX.out 3 (.slice Ao nn co) rfl)
      have n1_ := Aside0.mk (blk_far BK.out (p := ⟨g5, 3, none⟩) (blk_ne BK.out BX.out (by decide)) (.slice Ao nn co))
      have n2_ := Aside0.mk (HBc.out.setCell (p := ⟨g5, 3, none⟩) LG5.out (.slice Ao nn co))
      have n3_ := Aside0.mk (Kd.R_set HRc.out BX.out (by decide) 3 (.slice Ao nn co))
      clear BX BK HBc HRc hHeld hs19 hfs19
      generalize w18.setCell ⟨g5, 3, none⟩ (.slice Ao nn co) = w19 at n0_ n1_ n2_ n3_ ⊢
      have q4 : IntKind.i64.wrap ((k : Int) + 2) = ((k + 2 : Nat) : Int) := (IntWalk.i64_in _ (by omega)).trans (by omega)
      go_wp2
      go_roundw
      case rel => exact ⟨m + 1, k + 2, .slice Ao nn co, by first | rfl | (rw [q4]; done) | (simp; done), by have := HKK.out; omega, by omega, n3_.out, n0_.out, n1_.out, n2_.out⟩
      case measure => first | (simp [intOf]; omega) | (rw [q4]; simp [intOf]; omega)
    · have hm35 : m = 35 := by omega
      have q1 : decide ((k : Int) < 70) = false := decide_eq_false (by omega)
      have hR5 := HRc.out
      rw [hm35] at hR5
      have BC3 := BW3.out.trans (HBc.out.mono BW3.out.size)
      have BC2 := BW2.out.trans (BC3.mono BW2.out.size)
      have BC1 := BW1.out.trans (BC2.mono BW1.out.size)
      have BC0 := BW0.out.trans (BC1.mono BW0.out.size)
      obtain ⟨Aa1, na1, ca1, Ab1, nb1, cb1, Ac1, nc1, cc1, bk1, KM1⟩ := (FB1.out.keep BC1).cells
      obtain ⟨Aa2, na2, ca2, Ab2, nb2, cb2, Ac2, nc2, cc2, bk2, KM2⟩ := (FB2.out.keep BC2).cells
      obtain ⟨Aa3, na3, ca3, Ab3, nb3, cb3, Ac3, nc3, cc3, bk3, KM3⟩ := (FB3.out.keep BC3).cells
      obtain ⟨Aa4, na4, ca4, Ab4, nb4, cb4, Ac4, nc4, cc4, bk4, KM4⟩ := (FB4.out.keep HBc.out).cells
      obtain ⟨Aa5, na5, ca5, Ab5, nb5, cb5, Ac5, nc5, cc5, bk5, KM5⟩ := (FB.mk fontS BX.out LG5.out hR5 (Kd.R_nil _ _ _ _ _) (Kd.R_nil _ _ _ _ _)).cells
      have BCA := Aside0.mk BC0
      have KA1 := Aside0.mk KM1
      have KA2 := Aside0.mk KM2
      have KA3 := Aside0.mk KM3
      have KA4 := Aside0.mk KM4
      have KA5 := Aside0.mk KM5
      have S0 := Aside0.mk BW0.out.size
      have S1 := Aside0.mk BW1.out.size
      have S2 := Aside0.mk BW2.out.size
      have S3 := Aside0.mk BW3.out.size
      have S4 := Aside0.mk HBc.out.size
      have hx10 : wr.cell? ⟨g1, 0, none⟩ = some (.string (⟨#[82]⟩ : ByteArray)) := (blk_cell bk1 0).trans rfl
      have hx11 : wr.cell? ⟨g1, 1, none⟩ = some (.bool false) := (blk_cell bk1 1).trans rfl
      have hx12 : wr.cell? ⟨g1, 2, none⟩ = some (.int .i64 250) := (blk_cell bk1 2).trans rfl
      have hx13 : wr.cell? ⟨g1, 3, none⟩ = some (.slice Aa1 na1 ca1) := (blk_cell bk1 3).trans rfl
      have hx14 : wr.cell? ⟨g1, 4, none⟩ = some (.slice Ab1 nb1 cb1) := (blk_cell bk1 4).trans rfl
      have hx15 : wr.cell? ⟨g1, 5, none⟩ = some (.slice Ac1 nc1 cc1) := (blk_cell bk1 5).trans rfl
      have hx20 : wr.cell? ⟨g2, 0, none⟩ = some (.string (⟨#[73]⟩ : ByteArray)) := (blk_cell bk2 0).trans rfl
      have hx21 : wr.cell? ⟨g2, 1, none⟩ = some (.bool false) := (blk_cell bk2 1).trans rfl
      have hx22 : wr.cell? ⟨g2, 2, none⟩ = some (.int .i64 250) := (blk_cell bk2 2).trans rfl
      have hx23 : wr.cell? ⟨g2, 3, none⟩ = some (.slice Aa2 na2 ca2) := (blk_cell bk2 3).trans rfl
      have hx24 : wr.cell? ⟨g2, 4, none⟩ = some (.slice Ab2 nb2 cb2) := (blk_cell bk2 4).trans rfl
      have hx25 : wr.cell? ⟨g2, 5, none⟩ = some (.slice Ac2 nc2 cc2) := (blk_cell bk2 5).trans rfl
      have hx30 : wr.cell? ⟨g3, 0, none⟩ = some (.string (⟨#[66]⟩ : ByteArray)) := (blk_cell bk3 0).trans rfl
      have hx31 : wr.cell? ⟨g3, 1, none⟩ = some (.bool false) := (blk_cell bk3 1).trans rfl
      have hx32 : wr.cell? ⟨g3, 2, none⟩ = some (.int .i64 250) := (blk_cell bk3 2).trans rfl
      have hx33 : wr.cell? ⟨g3, 3, none⟩ = some (.slice Aa3 na3 ca3) := (blk_cell bk3 3).trans rfl
      have hx34 : wr.cell? ⟨g3, 4, none⟩ = some (.slice Ab3 nb3 cb3) := (blk_cell bk3 4).trans rfl
      have hx35 : wr.cell? ⟨g3, 5, none⟩ = some (.slice Ac3 nc3 cc3) := (blk_cell bk3 5).trans rfl
      have hx40 : wr.cell? ⟨g4, 0, none⟩ = some (.string (⟨#[77]⟩ : ByteArray)) := (blk_cell bk4 0).trans rfl
      have hx41 : wr.cell? ⟨g4, 1, none⟩ = some (.bool false) := (blk_cell bk4 1).trans rfl
      have hx42 : wr.cell? ⟨g4, 2, none⟩ = some (.int .i64 600) := (blk_cell bk4 2).trans rfl
      have hx43 : wr.cell? ⟨g4, 3, none⟩ = some (.slice Aa4 na4 ca4) := (blk_cell bk4 3).trans rfl
      have hx44 : wr.cell? ⟨g4, 4, none⟩ = some (.slice Ab4 nb4 cb4) := (blk_cell bk4 4).trans rfl
      have hx45 : wr.cell? ⟨g4, 5, none⟩ = some (.slice Ac4 nc4 cc4) := (blk_cell bk4 5).trans rfl
      have hx50 : wr.cell? ⟨g5, 0, none⟩ = some (.string (⟨#[83]⟩ : ByteArray)) := (blk_cell bk5 0).trans rfl
      have hx51 : wr.cell? ⟨g5, 1, none⟩ = some (.bool true) := (blk_cell bk5 1).trans rfl
      have hx52 : wr.cell? ⟨g5, 2, none⟩ = some (.int .i64 250) := (blk_cell bk5 2).trans rfl
      have hx53 : wr.cell? ⟨g5, 3, none⟩ = some (.slice Aa5 na5 ca5) := (blk_cell bk5 3).trans rfl
      have hx54 : wr.cell? ⟨g5, 4, none⟩ = some (.slice Ab5 nb5 cb5) := (blk_cell bk5 4).trans rfl
      have hx55 : wr.cell? ⟨g5, 5, none⟩ = some (.slice Ac5 nc5 cc5) := (blk_cell bk5 5).trans rfl
      clear hR5 BC0 BC1 BC2 BC3 KM1 KM2 KM3 KM4 KM5 bk1 bk2 bk3 bk4 bk5 HRc BX BK HBc hkm hmk hm35 hm hlt HKK FB1 FB2 FB3 FB4 BW0 BW1 BW2 BW3 GWS HGW LG5
      go_wp2
      clear hx10 hx11 hx12 hx13 hx14 hx15 hx20 hx21 hx22 hx23 hx24 hx25 hx30 hx31 hx32 hx33 hx34 hx35 hx40 hx41 hx42 hx43 hx44 hx45 hx50 hx51 hx52 hx53 hx54 hx55
      have hbn := below_alloc (Below.refl wr.heap.size wr) (.cells #[.string (⟨#[82]⟩ : ByteArray), .bool false, .int .i64 250, .slice Aa1 na1 ca1, .slice Ab1 nb1 cb1, .slice Ac1 nc1 cc1, .string (⟨#[73]⟩ : ByteArray), .bool false, .int .i64 250, .slice Aa2 na2 ca2, .slice Ab2 nb2 cb2, .slice Ac2 nc2 cc2, .string (⟨#[66]⟩ : ByteArray), .bool false, .int .i64 250, .slice Aa3 na3 ca3, .slice Ab3 nb3 cb3, .slice Ac3 nc3 cc3, .string (⟨#[77]⟩ : ByteArray), .bool false, .int .i64 600, .slice Aa4 na4 ca4, .slice Ab4 nb4 cb4, .slice Ac4 nc4 cc4, .string (⟨#[83]⟩ : ByteArray), .bool true, .int .i64 250, .slice Aa5 na5 ca5, .slice Ab5 nb5 cb5, .slice Ac5 nc5 cc5] 26)
      have hnew := blk_new wr (.cells #[.string (⟨#[82]⟩ : ByteArray), .bool false, .int .i64 250, .slice Aa1 na1 ca1, .slice Ab1 nb1 cb1, .slice Ac1 nc1 cc1, .string (⟨#[73]⟩ : ByteArray), .bool false, .int .i64 250, .slice Aa2 na2 ca2, .slice Ab2 nb2 cb2, .slice Ac2 nc2 cc2, .string (⟨#[66]⟩ : ByteArray), .bool false, .int .i64 250, .slice Aa3 na3 ca3, .slice Ab3 nb3 cb3, .slice Ac3 nc3 cc3, .string (⟨#[77]⟩ : ByteArray), .bool false, .int .i64 600, .slice Aa4 na4 ca4, .slice Ab4 nb4 cb4, .slice Ac4 nc4 cc4, .string (⟨#[83]⟩ : ByteArray), .bool true, .int .i64 250, .slice Aa5 na5 ca5, .slice Ab5 nb5 cb5, .slice Ac5 nc5 cc5] 26 (0, 0))
      have hbw := BCA.out.alloc BCA.out.size (.cells #[.string (⟨#[82]⟩ : ByteArray), .bool false, .int .i64 250, .slice Aa1 na1 ca1, .slice Ab1 nb1 cb1, .slice Ac1 nc1 cc1, .string (⟨#[73]⟩ : ByteArray), .bool false, .int .i64 250, .slice Aa2 na2 ca2, .slice Ab2 nb2 cb2, .slice Ac2 nc2 cc2, .string (⟨#[66]⟩ : ByteArray), .bool false, .int .i64 250, .slice Aa3 na3 ca3, .slice Ab3 nb3 cb3, .slice Ac3 nc3 cc3, .string (⟨#[77]⟩ : ByteArray), .bool false, .int .i64 600, .slice Aa4 na4 ca4, .slice Ab4 nb4 cb4, .slice Ac4 nc4 cc4, .string (⟨#[83]⟩ : ByteArray), .bool true, .int .i64 250, .slice Aa5 na5 ca5, .slice Ab5 nb5 cb5, .slice Ac5 nc5 cc5] 26)
      have hS : Kd.S k26 26 (wr.alloc (.cells #[.string (⟨#[82]⟩ : ByteArray), .bool false, .int .i64 250, .slice Aa1 na1 ca1, .slice Ab1 nb1 cb1, .slice Ac1 nc1 cc1, .string (⟨#[73]⟩ : ByteArray), .bool false, .int .i64 250, .slice Aa2 na2 ca2, .slice Ab2 nb2 cb2, .slice Ac2 nc2 cc2, .string (⟨#[66]⟩ : ByteArray), .bool false, .int .i64 250, .slice Aa3 na3 ca3, .slice Ab3 nb3 cb3, .slice Ac3 nc3 cc3, .string (⟨#[77]⟩ : ByteArray), .bool false, .int .i64 600, .slice Aa4 na4 ca4, .slice Ab4 nb4 cb4, .slice Ac4 nc4 cc4, .string (⟨#[83]⟩ : ByteArray), .bool true, .int .i64 250, .slice Aa5 na5 ca5, .slice Ab5 nb5 cb5, .slice Ac5 nc5 cc5] 26)) W0_.heap.size (fun _ => True) (.slice (some ⟨wr.heap.size, 0, none⟩) 5 5) stdV := by
        generalize wr.alloc (.cells #[.string (⟨#[82]⟩ : ByteArray), .bool false, .int .i64 250, .slice Aa1 na1 ca1, .slice Ab1 nb1 cb1, .slice Ac1 nc1 cc1, .string (⟨#[73]⟩ : ByteArray), .bool false, .int .i64 250, .slice Aa2 na2 ca2, .slice Ab2 nb2 cb2, .slice Ac2 nc2 cc2, .string (⟨#[66]⟩ : ByteArray), .bool false, .int .i64 250, .slice Aa3 na3 ca3, .slice Ab3 nb3 cb3, .slice Ac3 nc3 cc3, .string (⟨#[77]⟩ : ByteArray), .bool false, .int .i64 600, .slice Aa4 na4 ca4, .slice Ab4 nb4 cb4, .slice Ac4 nc4 cc4, .string (⟨#[83]⟩ : ByteArray), .bool true, .int .i64 250, .slice Aa5 na5 ca5, .slice Ab5 nb5 cb5, .slice Ac5 nc5 cc5] 26) = w' at hbn hnew ⊢
        have s0 := S0.out
        have s1 := S1.out
        have s2 := S2.out
        have s3 := S3.out
        have s4 := S4.out
        refine ⟨fun k => if k < W1_.heap.size then 0 else if k < W2_.heap.size then 1 else if k < W3_.heap.size then 2 else if k < W4_.heap.size then 3 else 4, fun _ _ => trivial, [.string (⟨#[82]⟩ : ByteArray), .bool false, .int .i64 250, .slice Aa1 na1 ca1, .slice Ab1 nb1 cb1, .slice Ac1 nc1 cc1, .string (⟨#[73]⟩ : ByteArray), .bool false, .int .i64 250, .slice Aa2 na2 ca2, .slice Ab2 nb2 cb2, .slice Ac2 nc2 cc2, .string (⟨#[66]⟩ : ByteArray), .bool false, .int .i64 250, .slice Aa3 na3 ca3, .slice Ab3 nb3 cb3, .slice Ac3 nc3 cc3, .string (⟨#[77]⟩ : ByteArray), .bool false, .int .i64 600, .slice Aa4 na4 ca4, .slice Ab4 nb4 cb4, .slice Ac4 nc4 cc4, .string (⟨#[83]⟩ : ByteArray), .bool true, .int .i64 250, .slice Aa5 na5 ca5, .slice Ab5 nb5 cb5, .slice Ac5 nc5 cc5], ⟨rfl, .inr ⟨wr.heap.size, 5, _, rfl, BCA.out.size, hnew, by decide, by decide, rfl, rfl⟩⟩, rfl, fun j p hj => ?_⟩
        have hne : ∀ q, q < wr.heap.size → some q ≠ (Value.slice (some ⟨wr.heap.size, 0, none⟩) 5 5).ownBlock := by
          intro q hq e
          have : wr.heap.size = q := by simpa [Value.ownBlock] using e.symm
          omega
        rcases j with _ | _ | _ | _ | _ | j
        · obtain rfl := Option.some.inj hj
          refine KA1.out w' W0_.heap.size _ hbn (by omega) (fun q h1 h2 => ⟨⟨trivial, hne q (by omega)⟩, ?_⟩)
          show (if q < W1_.heap.size then 0 else if q < W2_.heap.size then 1 else if q < W3_.heap.size then 2 else if q < W4_.heap.size then 3 else 4) = 0
          repeat' split
          all_goals omega
        · obtain rfl := Option.some.inj hj
          refine KA2.out w' W0_.heap.size _ hbn (by omega) (fun q h1 h2 => ⟨⟨trivial, hne q (by omega)⟩, ?_⟩)
          show (if q < W1_.heap.size then 0 else if q < W2_.heap.size then 1 else if q < W3_.heap.size then 2 else if q < W4_.heap.size then 3 else 4) = 1
          repeat' split
          all_goals omega
        · obtain rfl := Option.some.inj hj
          refine KA3.out w' W0_.heap.size _ hbn (by omega) (fun q h1 h2 => ⟨⟨trivial, hne q (by omega)⟩, ?_⟩)
          show (if q < W1_.heap.size then 0 else if q < W2_.heap.size then 1 else if q < W3_.heap.size then 2 else if q < W4_.heap.size then 3 else 4) = 2
          repeat' split
          all_goals omega
        · obtain rfl := Option.some.inj hj
          refine KA4.out w' W0_.heap.size _ hbn (by omega) (fun q h1 h2 => ⟨⟨trivial, hne q (by omega)⟩, ?_⟩)
          show (if q < W1_.heap.size then 0 else if q < W2_.heap.size then 1 else if q < W3_.heap.size then 2 else if q < W4_.heap.size then 3 else 4) = 3
          repeat' split
          all_goals omega
        · obtain rfl := Option.some.inj hj
          refine KA5.out w' W0_.heap.size _ hbn (by omega) (fun q h1 h2 => ⟨⟨trivial, hne q (by omega)⟩, ?_⟩)
          show (if q < W1_.heap.size then 0 else if q < W2_.heap.size then 1 else if q < W3_.heap.size then 2 else if q < W4_.heap.size then 3 else 4) = 4
          repeat' split
          all_goals omega
        · simp [stdV] at hj
      clear hbn hnew
      go_ret
      exact ⟨_, rfl, hS, hbw⟩
def font_Standard.f : Option (List S26) := some stdV
theorem font_Standard.calls (r : List S26) (w : World) (hG : GW w) (h : font_Standard.f = some r) :
    Calls Tryz.prog 13 #[] w fun e w' => ∃ v0_ : Value, e = .returned v0_ ∧ Kd.S k26 26 w' w.heap.size (fun _ => True) v0_ r ∧ Below w.heap.size w w' := by
  obtain rfl := Option.some.inj h
  exact std_any w hG
end Go.Proofs.YtaifemkokfoadaaGreatDoor

namespace Go.Proofs.YtaifemkokfoadaaGreatDoor
open Go.RowKit Go.Shelf Go.Proofs.YtaifemkokfoadaaGreatDoorW.PrintWords Go.Proofs.YtaifemkokfoadaaGreatDoorW.PrintMore Go.Proofs.YtaifemkokfoadaaGreatDoor.PX
set_option linter.unusedSimpArgs false
set_option linter.unusedVariables false
theorem strs_at {w : World} {g : Nat} {ns : List ByteArray} {t : TypeId} (h : w.heap[g]? = some (.cells (ns.map Value.string).toArray t (0, 0))) (hn : ns.length ≤ 1000) : Kd.C Kd.string w (some ⟨g, 0, none⟩) ns.length ns := by
  refine ⟨rfl, by omega, fun _ => ⟨_, rfl, fun j p hj => ⟨[.string p], rfl, rfl, fun i u hi => ?_⟩⟩⟩
  rcases i with _ | i
  · cases hi
    have hs : Kd.string.sz = 1 := rfl
    rw [Addr.add_lit, hs]
    refine cell_blk h _ _ ?_
    simp [hj]
  · simp at hi
/-- A ligature, a kern that is none. -/
def badL (l3 : List S31) (x : S86) : Bool := !allV l3 [x.f0, x.f1, x.f2]
def badK (l3 : List S31) (x : S76) : Bool := decide (x.f2 = 0) || (decide (x.f2 < -500) || (decide (500 < x.f2) || !allV l3 [x.f0, x.f1]))
set_option maxRecDepth 100000 in
set_option maxHeartbeats 1000000 in
theorem badL_any (B : Nat) (a : ByteArray) (b : Bool) (c : Int) (A3 : Option Addr) (c3 : Nat) (l3 : List S31) (A4 : Option Addr) (c4 : Nat) (l4 : List S86) (A5 : Option Addr) (c5 : Nat) (l5 : List S76) (g3 : l3.length ≤ c3) (g4 : l4.length ≤ c4) (g5 : l5.length ≤ c5) (hl3 : l3.length ≤ 1000000000) (w : World) (hF : FontAt w B a b c A3 c3 l3 A4 c4 l4 A5 c5 l5) :
    PredBelow Tryz.prog 49 #[.pointer (some ⟨B, 0, none⟩)] (fun x => .agg (encL x).toArray) (badL l3) w := fun W x hb => by
  have hl := (Array.getElem?_eq_some_iff.1 hF.blk).1
  have hFW := hF.below hb
  have hlW : B < W.heap.size := Nat.lt_of_lt_of_le hl hb.size
  show Calls Tryz.prog 49 #[.agg #[.string x.f0, .string x.f1, .string x.f2], .pointer (some ⟨B, 0, none⟩)] W _
  have hbW : Below W.heap.size W ((W.alloc (.cells #[.string x.f0, .string x.f1, .string x.f2] 86)).alloc (.cells #[.string x.f0, .string x.f1, .string x.f2] 9)) := ((Below.refl _ W).alloc (Nat.le_refl _) _).alloc (by simp) _
  have hF2 := hFW.below hbW
  have hblk : ((W.alloc (.cells #[.string x.f0, .string x.f1, .string x.f2] 86)).alloc (.cells #[.string x.f0, .string x.f1, .string x.f2] 9)).heap[W.heap.size + 1]? = some (.cells (([x.f0, x.f1, x.f2].map Value.string).toArray) 9 (0, 0)) := by
    have := World.alloc_heap_new (W.alloc (.cells #[.string x.f0, .string x.f1, .string x.f2] 86)) (.cells #[.string x.f0, .string x.f1, .string x.f2] 9)
    rwa [World.size_alloc] at this
  have ha := all_any a b c A3 c3 l3 A4 c4 l4 A5 c5 l5 _ 3 [x.f0, x.f1, x.f2] _ hF2.h3 g3 hF2.h4 g4 hF2.h5 g5 (strs_at hblk (by simp)) (by simp) hF2.gw hl3 (by simp)
  have k0 := cell_blk hFW.blk 0 _ rfl
  have k1 := cell_blk hFW.blk 1 _ rfl
  have k2 := cell_blk hFW.blk 2 _ rfl
  have k3 := cell_blk hFW.blk 3 _ rfl
  have k4 := cell_blk hFW.blk 4 _ rfl
  have k5 := cell_blk hFW.blk 5 _ rfl
  have hend := hb.trans (hbW.mono hb.size)
  unfold badL
  generalize allV l3 [x.f0, x.f1, x.f2] = r at ha ⊢
  clear hF hFW hF2 hblk hb g3 g4 g5
  go_enter Tryz.func49, Tryz.ntmps49
  go_wp2_with (go_at_call 50; refine ha.mono ?_; rintro e w1 ⟨rfl, hb1⟩)
  go_ret
  exact ⟨rfl, hend.trans (hb1.mono hend.size)⟩
set_option maxRecDepth 100000 in
set_option maxHeartbeats 1000000 in
theorem badK_any (B : Nat) (a : ByteArray) (b : Bool) (c : Int) (A3 : Option Addr) (c3 : Nat) (l3 : List S31) (A4 : Option Addr) (c4 : Nat) (l4 : List S86) (A5 : Option Addr) (c5 : Nat) (l5 : List S76) (g3 : l3.length ≤ c3) (g4 : l4.length ≤ c4) (g5 : l5.length ≤ c5) (hl3 : l3.length ≤ 1000000000) (w : World) (hF : FontAt w B a b c A3 c3 l3 A4 c4 l4 A5 c5 l5) :
    PredBelow Tryz.prog 54 #[.pointer (some ⟨B, 0, none⟩)] (fun x => .agg (encK x).toArray) (badK l3) w := fun W x hb => by
  have hl := (Array.getElem?_eq_some_iff.1 hF.blk).1
  have hFW := hF.below hb
  have hlW : B < W.heap.size := Nat.lt_of_lt_of_le hl hb.size
  show Calls Tryz.prog 54 #[.agg #[.string x.f0, .string x.f1, .int .i64 x.f2], .pointer (some ⟨B, 0, none⟩)] W _
  have hb1 : Below w.heap.size w (W.alloc (.cells #[.string x.f0, .string x.f1, .int .i64 x.f2] 76)) := hb.alloc hb.size _
  unfold badK
  by_cases q0 : x.f2 = 0
  · have d0 : (x.f2 == 0) = true := beq_iff_eq.2 q0
    rw [decide_eq_true q0]
    clear q0 hF hFW
    go_enter Tryz.func54, Tryz.ntmps54
    go_wp2
    go_ret
    exact ⟨rfl, hb1⟩
  · have d0 : (x.f2 == 0) = false := beq_eq_false_iff_ne.2 q0
    rw [decide_eq_false q0, Bool.false_or]
    clear q0
    by_cases q1 : x.f2 < -500
    · have d1 : decide (x.f2 < -500) = true := decide_eq_true q1
      rw [d1]
      clear q1 hF hFW
      go_enter Tryz.func54, Tryz.ntmps54
      go_wp2
      go_ret
      exact ⟨rfl, hb1⟩
    · have d1 : decide (x.f2 < -500) = false := decide_eq_false q1
      rw [d1, Bool.false_or]
      clear q1
      by_cases q2 : 500 < x.f2
      · have d2 : decide (500 < x.f2) = true := decide_eq_true q2
        rw [d2]
        clear q2 hF hFW
        go_enter Tryz.func54, Tryz.ntmps54
        go_wp2
        go_ret
        exact ⟨rfl, hb1⟩
      · have d2 : decide (500 < x.f2) = false := decide_eq_false q2
        rw [d2, Bool.false_or]
        clear q2
        have hbW : Below W.heap.size W ((W.alloc (.cells #[.string x.f0, .string x.f1, .int .i64 x.f2] 76)).alloc (.cells #[.string x.f0, .string x.f1] 9)) := ((Below.refl _ W).alloc (Nat.le_refl _) _).alloc (by simp) _
        have hF2 := hFW.below hbW
        have hblk : ((W.alloc (.cells #[.string x.f0, .string x.f1, .int .i64 x.f2] 76)).alloc (.cells #[.string x.f0, .string x.f1] 9)).heap[W.heap.size + 1]? = some (.cells (([x.f0, x.f1].map Value.string).toArray) 9 (0, 0)) := by
          have := World.alloc_heap_new (W.alloc (.cells #[.string x.f0, .string x.f1, .int .i64 x.f2] 76)) (.cells #[.string x.f0, .string x.f1] 9)
          rwa [World.size_alloc] at this
        have ha := all_any a b c A3 c3 l3 A4 c4 l4 A5 c5 l5 _ 2 [x.f0, x.f1] _ hF2.h3 g3 hF2.h4 g4 hF2.h5 g5 (strs_at hblk (by simp)) (by simp) hF2.gw hl3 (by simp)
        have k0 := cell_blk hFW.blk 0 _ rfl
        have k1 := cell_blk hFW.blk 1 _ rfl
        have k2 := cell_blk hFW.blk 2 _ rfl
        have k3 := cell_blk hFW.blk 3 _ rfl
        have k4 := cell_blk hFW.blk 4 _ rfl
        have k5 := cell_blk hFW.blk 5 _ rfl
        have hend := hb.trans (hbW.mono hb.size)
        generalize allV l3 [x.f0, x.f1] = r at ha ⊢
        clear hF hFW hF2 hblk hb g3 g4 g5
        go_enter Tryz.func54, Tryz.ntmps54
        go_wp2_with (go_at_call 50; refine ha.mono ?_; rintro e w1 ⟨rfl, hb1⟩)
        go_ret
        exact ⟨rfl, hend.trans (hb1.mono hend.size)⟩
/-- Whether a font is one. -/
def validV (a : ByteArray) (c : Int) (l3 : List S31) (l4 : List S86) (l5 : List S76) : Bool :=
  if (!fnameB a.data.toList || (wideB c || (decide (400 < l3.length) || (decide (50 < l4.length) || decide (500 < l5.length))))) = true then false
  else if (l3.any badG || !ascV (fun i j => cmpG (rd_T31 l3 (i : Int)) (rd_T31 l3 (j : Int))) l3.length) = true then false
  else if (l4.any (badL l3) || !ascV (fun i j => cmpL (rd_T86 l4 (i : Int)) (rd_T86 l4 (j : Int))) l4.length) = true then false
  else !l5.any (badK l3) && ascV (fun i j => cmpK (rd_T76 l5 (i : Int)) (rd_T76 l5 (j : Int))) l5.length
set_option maxRecDepth 100000 in
set_option maxHeartbeats 4000000 in
theorem valid_any (a : ByteArray) (b : Bool) (c : Int) (A3 : Option Addr) (c3 : Nat) (l3 : List S31) (A4 : Option Addr) (c4 : Nat) (l4 : List S86) (A5 : Option Addr) (c5 : Nat) (l5 : List S76) (g3 : l3.length ≤ c3) (g4 : l4.length ≤ c4) (g5 : l5.length ≤ c5) (hl3 : l3.length ≤ 1000000000) (hl4 : l4.length ≤ 1000000000) (hl5 : l5.length ≤ 1000000000) (w : World) (h3 : Kd.C k31 w A3 l3.length l3) (h4 : Kd.C k86 w A4 l4.length l4) (h5 : Kd.C k76 w A5 l5.length l5) (hG : GW w) :
    Calls Tryz.prog 17 #[.agg #[.string a, .bool b, .int .i64 c, .slice A3 l3.length c3, .slice A4 l4.length c4, .slice A5 l5.length c5]] w fun e w' => e = .returned (.bool (validV a c l3 l4 l5)) ∧ Below w.heap.size w w' := by
  have hw1 : Below w.heap.size w ((w.alloc (.cells #[.string a, .bool b, .int .i64 c, .slice A3 l3.length c3, .slice A4 l4.length c4, .slice A5 l5.length c5] 26)).alloc (.cells #[.func (.func 40) #[] #[]] 87)) := ((Below.refl _ w).alloc (Nat.le_refl _) _).alloc (by simp) _
  have hblk : ((w.alloc (.cells #[.string a, .bool b, .int .i64 c, .slice A3 l3.length c3, .slice A4 l4.length c4, .slice A5 l5.length c5] 26)).alloc (.cells #[.func (.func 40) #[] #[]] 87)).heap[w.heap.size]? = some (.cells #[.string a, .bool b, .int .i64 c, .slice A3 l3.length c3, .slice A4 l4.length c4, .slice A5 l5.length c5] 26 (0, 0)) :=
    (Below.heap_alloc _ _ _ (by simp)).trans (World.alloc_heap_new w _)
  have hfb : ((w.alloc (.cells #[.string a, .bool b, .int .i64 c, .slice A3 l3.length c3, .slice A4 l4.length c4, .slice A5 l5.length c5] 26)).alloc (.cells #[.func (.func 40) #[] #[]] 87)).heap[w.heap.size + 1]? = some (.cells #[.func (.func 40) #[] #[]] 87 (0, 0)) := by
    have := World.alloc_heap_new (w.alloc (.cells #[.string a, .bool b, .int .i64 c, .slice A3 l3.length c3, .slice A4 l4.length c4, .slice A5 l5.length c5] 26)) (.cells #[.func (.func 40) #[] #[]] 87)
    rwa [World.size_alloc] at this
  have hF : FontAt ((w.alloc (.cells #[.string a, .bool b, .int .i64 c, .slice A3 l3.length c3, .slice A4 l4.length c4, .slice A5 l5.length c5] 26)).alloc (.cells #[.func (.func 40) #[] #[]] 87)) w.heap.size a b c A3 c3 l3 A4 c4 l4 A5 c5 l5 := ⟨hblk, Kd.C_below h3 hw1, Kd.C_below h4 hw1, Kd.C_below h5 hw1, hG.under hw1⟩
  have hfn := fontNamed_any a ((w.alloc (.cells #[.string a, .bool b, .int .i64 c, .slice A3 l3.length c3, .slice A4 l4.length c4, .slice A5 l5.length c5] 26)).alloc (.cells #[.func (.func 40) #[] #[]] 87))
  have hwd := fun W => wide_any c W
  have hhG := fun W (hF : FontAt W w.heap.size a b c A3 c3 l3 A4 c4 l4 A5 c5 l5) (hB : W.cell? ⟨w.heap.size + 1, 0, none⟩ = some (.func (.func 40) #[] #[])) => hasG_any A3 c3 l3 W hF.h3 hl3 badG 43 #[.pointer (some ⟨w.heap.size + 1, 0, none⟩)] (enters_of Tryz.func43 (by kernel_rfl) rfl) (badG_any _ W hB)
  have haG := fun W (hF : FontAt W w.heap.size a b c A3 c3 l3 A4 c4 l4 A5 c5 l5) => ascG_any A3 c3 l3 W hF.h3 hl3
  have hhL := fun W (hF : FontAt W w.heap.size a b c A3 c3 l3 A4 c4 l4 A5 c5 l5) => hasL_any A4 c4 l4 W hF.h4 hl4 (badL l3) 49 #[.pointer (some ⟨w.heap.size, 0, none⟩)] (enters_of Tryz.func49 (by kernel_rfl) rfl) (badL_any _ a b c A3 c3 l3 A4 c4 l4 A5 c5 l5 g3 g4 g5 hl3 W hF)
  have haL := fun W (hF : FontAt W w.heap.size a b c A3 c3 l3 A4 c4 l4 A5 c5 l5) => ascL_any A4 c4 l4 W hF.h4 hl4
  have hhK := fun W (hF : FontAt W w.heap.size a b c A3 c3 l3 A4 c4 l4 A5 c5 l5) => hasK_any A5 c5 l5 W hF.h5 hl5 (badK l3) 54 #[.pointer (some ⟨w.heap.size, 0, none⟩)] (enters_of Tryz.func54 (by kernel_rfl) rfl) (badK_any _ a b c A3 c3 l3 A4 c4 l4 A5 c5 l5 g3 g4 g5 hl3 W hF)
  have haK := fun W (hF : FontAt W w.heap.size a b c A3 c3 l3 A4 c4 l4 A5 c5 l5) => ascK_any A5 c5 l5 W hF.h5 hl5
  generalize hR : validV a c l3 l4 l5 = R
  have HR := Lib.hid hR
  unfold validV at hR
  generalize fnameB a.data.toList = b1 at hfn hR
  generalize wideB c = b2 at hwd hR
  generalize l3.any badG = b6 at hhG hR
  generalize ascV (fun i j => cmpG (rd_T31 l3 (i : Int)) (rd_T31 l3 (j : Int))) l3.length = b7 at haG hR
  generalize l4.any (badL l3) = b8 at hhL hR
  generalize ascV (fun i j => cmpL (rd_T86 l4 (i : Int)) (rd_T86 l4 (j : Int))) l4.length = b9 at haL hR
  generalize l5.any (badK l3) = b10 at hhK hR
  generalize ascV (fun i j => cmpK (rd_T76 l5 (i : Int)) (rd_T76 l5 (j : Int))) l5.length = b11 at haK hR
  clear g3 g4 g5 h3 h4 h5 hG HR
  go_enter Tryz.func17, Tryz.ntmps17
  have HF0 := Lib.hid hF
  have K0 := Lib.hid (cell_blk hfb 0 _ rfl)
  have HW0 := Lib.hid hw1
  have c0 := cell_blk hblk 0 _ rfl
  have c2 := cell_blk hblk 2 _ rfl
  have c3_ := cell_blk hblk 3 _ rfl
  have c4_ := cell_blk hblk 4 _ rfl
  have c5_ := cell_blk hblk 5 _ rfl
  clear hF hblk hfb hw1
  go_wp2_with fail
  generalize ((w.alloc (.cells #[.string a, .bool b, .int .i64 c, .slice A3 l3.length c3, .slice A4 l4.length c4, .slice A5 l5.length c5] 26)).alloc (.cells #[.func (.func 40) #[] #[]] 87)) = W0 at hfn HF0 K0 HW0 c0 c2 c3_ c4_ c5_ ⊢
  refine hfn.mono ?_; rintro e W1 ⟨rfl, hb1⟩
  clear hfn c0 c2 c3_ c4_ c5_
  have HF1 := Lib.hid (HF0.out.below hb1)
  have K1 := Lib.hid ((hb1.cell (World.block_lt_of_cell? _ _ K0.out)).trans K0.out)
  have HW1 := Lib.hid (HW0.out.trans (hb1.mono HW0.out.size))
  clear hb1
  have c2 := cell_blk HF1.out.blk 2 _ rfl
  have c3_ := cell_blk HF1.out.blk 3 _ rfl
  have c4_ := cell_blk HF1.out.blk 4 _ rfl
  have c5_ := cell_blk HF1.out.blk 5 _ rfl
  have cb := K1.out
  cases b1 with
  | false =>
    obtain rfl : false = R := by simpa using hR
    clear hR
    go_wp2_with fail
    go_ret
    exact ⟨rfl, HW1.out⟩
  | true =>
    go_wp2_with fail
    refine (hwd _).mono ?_; rintro e W1x ⟨rfl, hx⟩; subst hx
    cases b2 with
    | false =>
      by_cases q3 : 400 < l3.length
      · have dq3 : decide ((400 : Int) < (l3.length : Int)) = true := decide_eq_true (by omega)
        rw [decide_eq_true q3] at hR
        clear q3
        obtain rfl : false = R := by simpa using hR
        clear hR
        go_wp2_with fail
        go_ret
        exact ⟨rfl, HW1.out⟩
      · have dq3 : decide ((400 : Int) < (l3.length : Int)) = false := decide_eq_false (by omega)
        rw [decide_eq_false q3] at hR
        clear q3
        by_cases q4 : 50 < l4.length
        · have dq4 : decide ((50 : Int) < (l4.length : Int)) = true := decide_eq_true (by omega)
          rw [decide_eq_true q4] at hR
          clear q4
          obtain rfl : false = R := by simpa using hR
          clear hR
          go_wp2_with fail
          go_ret
          exact ⟨rfl, HW1.out⟩
        · have dq4 : decide ((50 : Int) < (l4.length : Int)) = false := decide_eq_false (by omega)
          rw [decide_eq_false q4] at hR
          clear q4
          by_cases q5 : 500 < l5.length
          · have dq5 : decide ((500 : Int) < (l5.length : Int)) = true := decide_eq_true (by omega)
            rw [decide_eq_true q5] at hR
            clear q5
            obtain rfl : false = R := by simpa using hR
            clear hR
            go_wp2_with fail
            go_ret
            exact ⟨rfl, HW1.out⟩
          · have dq5 : decide ((500 : Int) < (l5.length : Int)) = false := decide_eq_false (by omega)
            rw [decide_eq_false q5] at hR
            clear q5
            simp only [Bool.not_true, Bool.or_self, Bool.false_eq_true, if_false, Bool.or_false] at hR
            go_wp2_with fail
            refine (hhG _ HF1.out K1.out).mono ?_; rintro e W2 ⟨rfl, hb2⟩
            clear c2 c3_ c4_ c5_ cb
            have HF2 := Lib.hid (HF1.out.below hb2)
            have K2 := Lib.hid ((hb2.cell (World.block_lt_of_cell? _ _ K1.out)).trans K1.out)
            have HW2 := Lib.hid (HW1.out.trans (hb2.mono HW1.out.size))
            clear hb2
            have c2 := cell_blk HF2.out.blk 2 _ rfl
            have c3_ := cell_blk HF2.out.blk 3 _ rfl
            have c4_ := cell_blk HF2.out.blk 4 _ rfl
            have c5_ := cell_blk HF2.out.blk 5 _ rfl
            have cb := K2.out
            cases b6 with
            | false =>
              go_wp2_with fail
              refine (haG _ HF2.out).mono ?_; rintro e W3 ⟨rfl, hb3⟩
              clear c2 c3_ c4_ c5_ cb
              have HF3 := Lib.hid (HF2.out.below hb3)
              have K3 := Lib.hid ((hb3.cell (World.block_lt_of_cell? _ _ K2.out)).trans K2.out)
              have HW3 := Lib.hid (HW2.out.trans (hb3.mono HW2.out.size))
              clear hb3
              have c2 := cell_blk HF3.out.blk 2 _ rfl
              have c3_ := cell_blk HF3.out.blk 3 _ rfl
              have c4_ := cell_blk HF3.out.blk 4 _ rfl
              have c5_ := cell_blk HF3.out.blk 5 _ rfl
              have cb := K3.out
              cases b7 with
              | false =>
                obtain rfl : false = R := by simpa using hR
                clear hR
                go_wp2_with fail
                go_ret
                exact ⟨rfl, HW3.out⟩
              | true =>
                go_wp2_with fail
                refine (hhL _ HF3.out).mono ?_; rintro e W4 ⟨rfl, hb4⟩
                clear c2 c3_ c4_ c5_ cb
                have HF4 := Lib.hid (HF3.out.below hb4)
                have K4 := Lib.hid ((hb4.cell (World.block_lt_of_cell? _ _ K3.out)).trans K3.out)
                have HW4 := Lib.hid (HW3.out.trans (hb4.mono HW3.out.size))
                clear hb4
                have c2 := cell_blk HF4.out.blk 2 _ rfl
                have c3_ := cell_blk HF4.out.blk 3 _ rfl
                have c4_ := cell_blk HF4.out.blk 4 _ rfl
                have c5_ := cell_blk HF4.out.blk 5 _ rfl
                have cb := K4.out
                cases b8 with
                | false =>
                  go_wp2_with fail
                  refine (haL _ HF4.out).mono ?_; rintro e W5 ⟨rfl, hb5⟩
                  clear c2 c3_ c4_ c5_ cb
                  have HF5 := Lib.hid (HF4.out.below hb5)
                  have K5 := Lib.hid ((hb5.cell (World.block_lt_of_cell? _ _ K4.out)).trans K4.out)
                  have HW5 := Lib.hid (HW4.out.trans (hb5.mono HW4.out.size))
                  clear hb5
                  have c2 := cell_blk HF5.out.blk 2 _ rfl
                  have c3_ := cell_blk HF5.out.blk 3 _ rfl
                  have c4_ := cell_blk HF5.out.blk 4 _ rfl
                  have c5_ := cell_blk HF5.out.blk 5 _ rfl
                  have cb := K5.out
                  cases b9 with
                  | false =>
                    obtain rfl : false = R := by simpa using hR
                    clear hR
                    go_wp2_with fail
                    go_ret
                    exact ⟨rfl, HW5.out⟩
                  | true =>
                    go_wp2_with fail
                    refine (hhK _ HF5.out).mono ?_; rintro e W6 ⟨rfl, hb6⟩
                    clear c2 c3_ c4_ c5_ cb
                    have HF6 := Lib.hid (HF5.out.below hb6)
                    have K6 := Lib.hid ((hb6.cell (World.block_lt_of_cell? _ _ K5.out)).trans K5.out)
                    have HW6 := Lib.hid (HW5.out.trans (hb6.mono HW5.out.size))
                    clear hb6
                    have c2 := cell_blk HF6.out.blk 2 _ rfl
                    have c3_ := cell_blk HF6.out.blk 3 _ rfl
                    have c4_ := cell_blk HF6.out.blk 4 _ rfl
                    have c5_ := cell_blk HF6.out.blk 5 _ rfl
                    have cb := K6.out
                    cases b10 with
                    | false =>
                      go_wp2_with fail
                      refine (haK _ HF6.out).mono ?_; rintro e W7 ⟨rfl, hb7⟩
                      clear c2 c3_ c4_ c5_ cb
                      have HF7 := Lib.hid (HF6.out.below hb7)
                      have K7 := Lib.hid ((hb7.cell (World.block_lt_of_cell? _ _ K6.out)).trans K6.out)
                      have HW7 := Lib.hid (HW6.out.trans (hb7.mono HW6.out.size))
                      clear hb7
                      obtain rfl : b11 = R := by simpa using hR
                      clear hR
                      go_wp2_with fail
                      go_ret
                      exact ⟨rfl, HW7.out⟩
                    | true =>
                      obtain rfl : false = R := by simpa using hR
                      clear hR
                      go_wp2_with fail
                      go_ret
                      exact ⟨rfl, HW6.out⟩
                | true =>
                  obtain rfl : false = R := by simpa using hR
                  clear hR
                  go_wp2_with fail
                  go_ret
                  exact ⟨rfl, HW4.out⟩
            | true =>
              obtain rfl : false = R := by simpa using hR
              clear hR
              go_wp2_with fail
              go_ret
              exact ⟨rfl, HW2.out⟩
    | true =>
      obtain rfl : false = R := by simpa using hR
      clear hR
      go_wp2_with fail
      go_ret
      exact ⟨rfl, HW1.out⟩
/-- As the printed callers ask it. -/
def font_Valid.f (a0_0 : ByteArray) (_ : Bool) (a0_2 : Int) (l0_3 : List S31) (l0_4 : List S86) (l0_5 : List S76) : Option Bool := if l0_3.length ≤ 1000000000 ∧ l0_4.length ≤ 1000000000 ∧ l0_5.length ≤ 1000000000 then some (validV a0_0 a0_2 l0_3 l0_4 l0_5) else none
theorem font_Valid.calls (a0_0 : ByteArray) (a0_1 : Bool) (a0_2 : Int) (A0_3 : Option Addr) (c0_3 : Nat) (l0_3 : List S31) (A0_4 : Option Addr) (c0_4 : Nat) (l0_4 : List S86) (A0_5 : Option Addr) (c0_5 : Nat) (l0_5 : List S76) (r : Bool) (w : World) (hr0_3 : Kd.C k31 w A0_3 l0_3.length l0_3) (hc0_3 : l0_3.length ≤ c0_3) (hr0_4 : Kd.C k86 w A0_4 l0_4.length l0_4) (hc0_4 : l0_4.length ≤ c0_4) (hr0_5 : Kd.C k76 w A0_5 l0_5.length l0_5) (hc0_5 : l0_5.length ≤ c0_5) (hG : GW w) (h : font_Valid.f a0_0 a0_1 a0_2 l0_3 l0_4 l0_5 = some r) :
    Calls Tryz.prog 17 #[.agg #[.string a0_0, .bool a0_1, .int .i64 a0_2, .slice A0_3 l0_3.length c0_3, .slice A0_4 l0_4.length c0_4, .slice A0_5 l0_5.length c0_5]] w fun e w' => e = .returned (.bool r) ∧ Below w.heap.size w w' := by
  unfold font_Valid.f at h
  split at h
  · rename_i hl
    obtain rfl := Option.some.inj h
    exact valid_any a0_0 a0_1 a0_2 A0_3 c0_3 l0_3 A0_4 c0_4 l0_4 A0_5 c0_5 l0_5 hc0_3 hc0_4 hc0_5 hl.1 hl.2.1 hl.2.2 w hr0_3 hr0_4 hr0_5 hG
  · cases h
end Go.Proofs.YtaifemkokfoadaaGreatDoor

namespace Go.Proofs.YtaifemkokfoadaaGreatDoor.PX
open Go.RowKit Go.Proofs.YtaifemkokfoadaaGreatDoorW.PrintWords Go.Proofs.YtaifemkokfoadaaGreatDoorW.PrintLast Go.Proofs.YtaifemkokfoadaaGreatDoorW.PrintMore
attribute [local go_sem] max2_int min2_int max_two min_two max_three min_three max_four min_four   -- for this text's walks alone
set_option linter.unusedVariables false
set_option linter.unusedSimpArgs false
def font_fair.f (a0_0 : ByteArray) (a0_1 : Bool) (a0_2 : Int) (l0_3 : List (S31)) (l0_4 : List (S86)) (l0_5 : List (S76)) (a1 : Int) : Option (Bool) := if a1 ≥ 1 then (if a1 ≤ 1000 then ((font_Valid.f a0_0 a0_1 a0_2 l0_3 l0_4 l0_5).bind fun t240 => (some t240)) else (some false)) else (some false)
set_option maxHeartbeats 8000000 in
set_option maxRecDepth 100000 in
theorem font_fair.calls (a0_0 : ByteArray) (a0_1 : Bool) (a0_2 : Int) (A0_3 : Option Addr) (c0_3 : Nat) (l0_3 : List (S31)) (A0_4 : Option Addr) (c0_4 : Nat) (l0_4 : List (S86)) (A0_5 : Option Addr) (c0_5 : Nat) (l0_5 : List (S76)) (a1 : Int) (r : Bool) (w : World) (hr0_3 : Kd.C k31 w A0_3 l0_3.length l0_3) (hc0_3 : l0_3.length ≤ c0_3) (hr0_4 : Kd.C k86 w A0_4 l0_4.length l0_4) (hc0_4 : l0_4.length ≤ c0_4) (hr0_5 : Kd.C k76 w A0_5 l0_5.length l0_5) (hc0_5 : l0_5.length ≤ c0_5) (hG : GW w) (h : font_fair.f a0_0 a0_1 a0_2 l0_3 l0_4 l0_5 a1 = some r) :
    Calls Tryz.prog 26 #[.agg #[.string a0_0, .bool a0_1, .int .i64 a0_2, .slice A0_3 l0_3.length c0_3, .slice A0_4 l0_4.length c0_4, .slice A0_5 l0_5.length c0_5], .int .i64 a1] w fun e w' => e = .returned (.bool r) ∧ Below w.heap.size w w' := by
  have hu26 := Tryz.underlying26
  have HG := Aside0.mk hG
  clear hG
  have HR0_3 := Aside0.mk hr0_3
  have HC0_3 := Aside0.mk hc0_3
  clear hr0_3 hc0_3
  have HR0_4 := Aside0.mk hr0_4
  have HC0_4 := Aside0.mk hc0_4
  clear hr0_4 hc0_4
  have HR0_5 := Aside0.mk hr0_5
  have HC0_5 := Aside0.mk hc0_5
  clear hr0_5 hc0_5
  have HB := Aside0.mk (Below.refl w.heap.size w)
  have H : (if a1 ≥ 1 then (if a1 ≤ 1000 then ((font_Valid.f a0_0 a0_1 a0_2 l0_3 l0_4 l0_5).bind fun t240 => (some t240)) else (some false)) else (some false)) = some r := h
  clear h
  by_cases c3 : a1 ≥ 1
  · rw [if_pos c3] at H
    have c3b0 : decide (1 ≤ a1) = true := decide_eq_true c3
    clear c3
    by_cases c4 : a1 ≤ 1000
    · rw [if_pos c4] at H
      have c4b0 : decide (a1 ≤ 1000) = true := decide_eq_true c4
      clear c4
      replace H := Option.bind_eq_some_iff.mp H
      obtain ⟨t240, A50, H⟩ := H
      replace H : (some t240) = some r := H
      have A5 := Aside0.mk A50
      clear A50
      obtain rfl := Option.some.inj H
      go_enter Tryz.func26, Tryz.ntmps26
      go_wp2_with (first | ((with_reducible refine gate_dst (N := 2) rfl ?_); refine box_event ?hg (N := 2) ?hd (cs := #[.string a0_0, .bool a0_1, .int .i64 a0_2, .slice A0_3 l0_3.length c0_3, .slice A0_4 l0_4.length c0_4, .slice A0_5 l0_5.length c0_5]) (t := 26) ?hr ?_; (case hd => rfl); (case hg => rfl); (case hr => first | (go_simp; done) | (go_simp; rfl)); intro gb239 hg w6 hbox hb; have n0_ := Aside0.mk (below_step (by repeat (first | (with_reducible first | exact HB.out | apply below_alloc | apply pw_below_drewN | apply below_drew1) | exact HB.out)) hb); have n1_ := Aside0.mk (hbox); have n2_ := Aside0.mk ((by rw [hg]; exact (below_size (by repeat (first | (with_reducible first | exact HB.out | apply below_alloc | apply pw_below_drewN | apply below_drew1) | exact HB.out))) : w.heap.size ≤ gb239)); have n3_ := Aside0.mk ((by rw [hg]; exact (below_size (by repeat (first | (with_reducible first | exact HB.out | apply below_alloc | apply pw_below_drewN | apply below_drew1) | exact HB.out))) : w.heap.size ≤ gb239)); clear HB; have HB := n0_; have BK239 := n1_; have GW239 := n2_; have GE239 := n3_; clear n0_ n1_ n2_ n3_; clear hb hbox hg; have hcz7_0 : w6.cell? ⟨gb239, 0, none⟩ = some (.string a0_0) := (blk_cell BK239.out 0).trans rfl; have hcz7_1 : w6.cell? ⟨gb239, 1, none⟩ = some (.bool a0_1) := (blk_cell BK239.out 1).trans rfl; have hcz7_2 : w6.cell? ⟨gb239, 2, none⟩ = some (.int .i64 a0_2) := (blk_cell BK239.out 2).trans rfl; have hcz7_3 : w6.cell? ⟨gb239, 3, none⟩ = some (.slice A0_3 l0_3.length c0_3) := (blk_cell BK239.out 3).trans rfl; have hcz7_4 : w6.cell? ⟨gb239, 4, none⟩ = some (.slice A0_4 l0_4.length c0_4) := (blk_cell BK239.out 4).trans rfl; have hcz7_5 : w6.cell? ⟨gb239, 5, none⟩ = some (.slice A0_5 l0_5.length c0_5) := (blk_cell BK239.out 5).trans rfl; have hfz7_0 := blk_frozen BK239.out 0; have hfz7_1 := blk_frozen BK239.out 1; have hfz7_2 := blk_frozen BK239.out 2; have hfz7_3 := blk_frozen BK239.out 3; have hfz7_4 := blk_frozen BK239.out 4; have hfz7_5 := blk_frozen BK239.out 5) | (go_at_call 17; (with_reducible refine (font_Valid.calls a0_0 a0_1 a0_2 _ _ l0_3 _ _ l0_4 _ _ l0_5 t240 _ ?side1 ?side2 ?side3 ?side4 ?side5 ?side6 ?side7 A5.out).mono ?_); (case side1 => repeat (first | exact (Kd.C_below HR0_3.out HB.out) | (with_reducible refine Kd.C_alloc ?_ _) | (with_reducible refine Kd.C_drewN ?_ _) | (with_reducible refine Kd.C_drew ?_))); (case side2 => exact HC0_3.out); (case side3 => repeat (first | exact (Kd.C_below HR0_4.out HB.out) | (with_reducible refine Kd.C_alloc ?_ _) | (with_reducible refine Kd.C_drewN ?_ _) | (with_reducible refine Kd.C_drew ?_))); (case side4 => exact HC0_4.out); (case side5 => repeat (first | exact (Kd.C_below HR0_5.out HB.out) | (with_reducible refine Kd.C_alloc ?_ _) | (with_reducible refine Kd.C_drewN ?_ _) | (with_reducible refine Kd.C_drew ?_))); (case side6 => exact HC0_5.out); (case side7 => exact GW.under HG.out (by repeat (first | (with_reducible first | exact HB.out | apply below_alloc | apply pw_below_drewN | apply below_drew1 | refine below_set ?_ GE239.out) | exact HB.out))); rintro e w8 ⟨rfl, hb⟩; have n0_ := Aside0.mk (blk_below (g := gb239) (o := .cells #[.string a0_0, .bool a0_1, .int .i64 a0_2, .slice A0_3 l0_3.length c0_3, .slice A0_4 l0_4.length c0_4, .slice A0_5 l0_5.length c0_5] 26 (0, 0)) (by (with_reducible repeat (first | refine blk_drewN ?_ _ | refine blk_drew ?_ | refine blk_alloc ?_ _)); exact BK239.out) hb); have n1_ := Aside0.mk (below_step (by repeat (first | (with_reducible first | exact HB.out | apply below_alloc | apply pw_below_drewN | apply below_drew1 | refine below_set ?_ GE239.out) | exact HB.out)) hb); clear BK239; clear HB; have BK239 := n0_; have HB := n1_; clear n0_ n1_; (try clear hb); (try clear hb2); (try clear hk); (try clear hi)))
      go_ret
      exact ⟨by first | rfl | (simp [errW_none, errW_some] <;> rfl) | (simp [*, errW_none, errW_some] <;> rfl), by repeat (first | (with_reducible first | exact HB.out | apply below_alloc | apply pw_below_drewN | apply below_drew1 | refine below_set ?_ GE239.out) | exact HB.out)⟩
    · rw [if_neg c4] at H
      have c4b0 : decide (a1 ≤ 1000) = false := decide_eq_false c4
      clear c4
      obtain rfl := Option.some.inj H
      go_enter Tryz.func26, Tryz.ntmps26
      go_wp2_with (first | ((with_reducible refine gate_dst (N := 2) rfl ?_); refine box_event ?hg (N := 2) ?hd (cs := #[.string a0_0, .bool a0_1, .int .i64 a0_2, .slice A0_3 l0_3.length c0_3, .slice A0_4 l0_4.length c0_4, .slice A0_5 l0_5.length c0_5]) (t := 26) ?hr ?_; (case hd => rfl); (case hg => rfl); (case hr => first | (go_simp; done) | (go_simp; rfl)); intro gb239 hg w9 hbox hb; have n0_ := Aside0.mk (below_step (by repeat (first | (with_reducible first | exact HB.out | apply below_alloc | apply pw_below_drewN | apply below_drew1) | exact HB.out)) hb); have n1_ := Aside0.mk (hbox); have n2_ := Aside0.mk ((by rw [hg]; exact (below_size (by repeat (first | (with_reducible first | exact HB.out | apply below_alloc | apply pw_below_drewN | apply below_drew1) | exact HB.out))) : w.heap.size ≤ gb239)); have n3_ := Aside0.mk ((by rw [hg]; exact (below_size (by repeat (first | (with_reducible first | exact HB.out | apply below_alloc | apply pw_below_drewN | apply below_drew1) | exact HB.out))) : w.heap.size ≤ gb239)); clear HB; have HB := n0_; have BK239 := n1_; have GW239 := n2_; have GE239 := n3_; clear n0_ n1_ n2_ n3_; clear hb hbox hg))
      go_ret
      exact ⟨by first | rfl | (simp [errW_none, errW_some] <;> rfl) | (simp [*, errW_none, errW_some] <;> rfl), by repeat (first | (with_reducible first | exact HB.out | apply below_alloc | apply pw_below_drewN | apply below_drew1 | refine below_set ?_ GE239.out) | exact HB.out)⟩
  · rw [if_neg c3] at H
    have c3b0 : decide (1 ≤ a1) = false := decide_eq_false c3
    clear c3
    obtain rfl := Option.some.inj H
    go_enter Tryz.func26, Tryz.ntmps26
    go_wp2_with (first | ((with_reducible refine gate_dst (N := 2) rfl ?_); refine box_event ?hg (N := 2) ?hd (cs := #[.string a0_0, .bool a0_1, .int .i64 a0_2, .slice A0_3 l0_3.length c0_3, .slice A0_4 l0_4.length c0_4, .slice A0_5 l0_5.length c0_5]) (t := 26) ?hr ?_; (case hd => rfl); (case hg => rfl); (case hr => first | (go_simp; done) | (go_simp; rfl)); intro gb239 hg w10 hbox hb; have n0_ := Aside0.mk (below_step (by repeat (first | (with_reducible first | exact HB.out | apply below_alloc | apply pw_below_drewN | apply below_drew1) | exact HB.out)) hb); have n1_ := Aside0.mk (hbox); have n2_ := Aside0.mk ((by rw [hg]; exact (below_size (by repeat (first | (with_reducible first | exact HB.out | apply below_alloc | apply pw_below_drewN | apply below_drew1) | exact HB.out))) : w.heap.size ≤ gb239)); have n3_ := Aside0.mk ((by rw [hg]; exact (below_size (by repeat (first | (with_reducible first | exact HB.out | apply below_alloc | apply pw_below_drewN | apply below_drew1) | exact HB.out))) : w.heap.size ≤ gb239)); clear HB; have HB := n0_; have BK239 := n1_; have GW239 := n2_; have GE239 := n3_; clear n0_ n1_ n2_ n3_; clear hb hbox hg))
    go_ret
    exact ⟨by first | rfl | (simp [errW_none, errW_some] <;> rfl) | (simp [*, errW_none, errW_some] <;> rfl), by repeat (first | (with_reducible first | exact HB.out | apply below_alloc | apply pw_below_drewN | apply below_drew1 | refine below_set ?_ GE239.out) | exact HB.out)⟩
def font_floor.f (a0 : Int) (a1 : Int) : Option (Int) := if a0 < 0 then (if a1 = 0 then (none) else (some (wrap64 (-(wrap64 (Int.tdiv (wrap64 ((wrap64 ((wrap64 (-a0)) + a1)) - 1)) a1)))))) else (if a1 = 0 then (none) else (some (wrap64 (Int.tdiv a0 a1))))
set_option maxHeartbeats 8000000 in
set_option maxRecDepth 100000 in
theorem font_floor.calls (a0 : Int) (a1 : Int) (r : Int) (w : World) (h : font_floor.f a0 a1 = some r) :
    Calls Tryz.prog 88 #[.int .i64 a0, .int .i64 a1] w fun e w' => e = .returned (.int .i64 r) ∧ Drawn0 w w' := by
  have H : (if a0 < 0 then (if a1 = 0 then (none) else (some (wrap64 (-(wrap64 (Int.tdiv (wrap64 ((wrap64 ((wrap64 (-a0)) + a1)) - 1)) a1)))))) else (if a1 = 0 then (none) else (some (wrap64 (Int.tdiv a0 a1))))) = some r := h
  clear h
  by_cases c3 : a0 < 0
  · rw [if_pos c3] at H
    have c3b0 : decide (a0 < 0) = true := decide_eq_true c3
    clear c3
    by_cases c4 : a1 = 0
    · rw [if_pos c4] at H
      exact absurd H (by simp)
    · rw [if_neg c4] at H
      have c4b0 : (a1 == 0) = false := beq_eq_false_iff_ne.mpr c4
      have c4b1 : (a1 != 0) = true := bne_iff_ne.mpr c4
      obtain rfl := Option.some.inj H
      go_enter Tryz.func88, Tryz.ntmps88
      go_wp2
      go_ret
      exact ⟨by first | rfl | (simp; done) | (simp [*]; done), by repeat (first | exact Drawn0.refl _ | apply Drawn0.step)⟩
  · rw [if_neg c3] at H
    have c3b0 : decide (a0 < 0) = false := decide_eq_false c3
    clear c3
    by_cases c5 : a1 = 0
    · rw [if_pos c5] at H
      exact absurd H (by simp)
    · rw [if_neg c5] at H
      have c5b0 : (a1 == 0) = false := beq_eq_false_iff_ne.mpr c5
      have c5b1 : (a1 != 0) = true := bne_iff_ne.mpr c5
      obtain rfl := Option.some.inj H
      go_enter Tryz.func88, Tryz.ntmps88
      go_wp2
      go_ret
      exact ⟨by first | rfl | (simp; done) | (simp [*]; done), by repeat (first | exact Drawn0.refl _ | apply Drawn0.step)⟩
def font_scale.f (a0 : Int) (a1 : Int) : Option (Int) := (font_floor.f (wrap64 ((wrap64 (10 * a1)) * a0)) 1000).bind fun t241 => (some t241)
set_option maxHeartbeats 8000000 in
set_option maxRecDepth 100000 in
theorem font_scale.calls (a0 : Int) (a1 : Int) (r : Int) (w : World) (h : font_scale.f a0 a1 = some r) :
    Calls Tryz.prog 28 #[.int .i64 a0, .int .i64 a1] w fun e w' => e = .returned (.int .i64 r) ∧ Drawn0 w w' := by
  have H : ((font_floor.f (wrap64 ((wrap64 (10 * a1)) * a0)) 1000).bind fun t241 => (some t241)) = some r := h
  clear h
  replace H := Option.bind_eq_some_iff.mp H
  obtain ⟨t241, A30, H⟩ := H
  replace H : (some t241) = some r := H
  have A3 := Aside0.mk A30
  clear A30
  obtain rfl := Option.some.inj H
  go_enter Tryz.func28, Tryz.ntmps28
  go_wp2_with (first | ((with_reducible refine gate_callee (f := 88) rfl ?_); refine goesL_ (some 9) rfl rfl Tryz.func88 (by kernel_rfl) rfl #[.int .i64 (wrap64 ((wrap64 (10 * a1)) * a0)), .int .i64 1000] rfl (by (try simp only [List.map_toArray, List.map_cons, List.map_nil]); first | done | rfl | (simp only [List.length_drop, List.length_take]; rfl)) ?_; (with_reducible refine (font_floor.calls (wrap64 ((wrap64 (10 * a1)) * a0)) 1000 t241 _ A3.out).mono ?_); rintro e w' ⟨rfl, ⟨nd, rfl⟩⟩; refine ⟨_, rfl, ?_⟩))
  go_ret
  exact ⟨by first | rfl | (simp; done) | (simp [*]; done), by repeat (first | exact Drawn0.refl _ | apply Drawn0.step)⟩
end Go.Proofs.YtaifemkokfoadaaGreatDoor.PX

namespace Go.Proofs.YtaifemkokfoadaaGreatDoor.PX
open Go.RowKit Go.Proofs.YtaifemkokfoadaaGreatDoorW.PrintWords Go.Proofs.YtaifemkokfoadaaGreatDoorW.PrintLast Go.Proofs.YtaifemkokfoadaaGreatDoorW.PrintMore
attribute [local go_sem] max2_int min2_int max_two min_two max_three min_three max_four min_four   -- for this text's walks alone
set_option linter.unusedVariables false
set_option linter.unusedSimpArgs false
def font_Width.f (a0_0 : ByteArray) (a0_1 : Bool) (a0_2 : Int) (l0_3 : List (S31)) (l0_4 : List (S86)) (l0_5 : List (S76)) (a1 : ByteArray) (a2 : Int) : Option (Int × Int) := (font_fair.f a0_0 a0_1 a0_2 l0_3 l0_4 l0_5 a2).bind fun t243 => (if t243 = true then ((font_find.f a0_0 a0_1 a0_2 l0_3 l0_4 l0_5 a1).bind fun bt244 => (if bt244.2 = true then (if 0 ≤ bt244.1 then (if bt244.1 < (l0_3.length : Int) then ((font_scale.f ((rd_T31 l0_3 bt244.1).f1) a2).bind fun t247 => (some (t247, 0))) else (none)) else (none)) else (some (0, 3)))) else (some (0, 1)))
set_option maxHeartbeats 8000000 in
set_option maxRecDepth 100000 in
theorem font_Width.calls (a0_0 : ByteArray) (a0_1 : Bool) (a0_2 : Int) (A0_3 : Option Addr) (c0_3 : Nat) (l0_3 : List (S31)) (A0_4 : Option Addr) (c0_4 : Nat) (l0_4 : List (S86)) (A0_5 : Option Addr) (c0_5 : Nat) (l0_5 : List (S76)) (a1 : ByteArray) (a2 : Int) (r1 : Int) (r2 : Int) (w : World) (hr0_3 : Kd.C k31 w A0_3 l0_3.length l0_3) (hc0_3 : l0_3.length ≤ c0_3) (hr0_4 : Kd.C k86 w A0_4 l0_4.length l0_4) (hc0_4 : l0_4.length ≤ c0_4) (hr0_5 : Kd.C k76 w A0_5 l0_5.length l0_5) (hc0_5 : l0_5.length ≤ c0_5) (hG : GW w) (h : font_Width.f a0_0 a0_1 a0_2 l0_3 l0_4 l0_5 a1 a2 = some (r1, r2)) :
  Calls Tryz.prog 11 #[.agg #[.string a0_0, .bool a0_1, .int .i64 a0_2, .slice A0_3 l0_3.length c0_3, .slice A0_4 l0_4.length c0_4, .slice A0_5 l0_5.length c0_5], .string a1, .int .i64 a2] w fun e w' => e = .returned (.tuple #[.int .i64 r1, .int .i64 r2]) ∧ Below w.heap.size w w' := by
 have hu26 := Tryz.underlying26
 have HG := Aside0.mk hG
 clear hG
 have HR0_3 := Aside0.mk hr0_3
 have HC0_3 := Aside0.mk hc0_3
 clear hr0_3 hc0_3
 have HR0_4 := Aside0.mk hr0_4
 have HC0_4 := Aside0.mk hc0_4
 clear hr0_4 hc0_4
 have HR0_5 := Aside0.mk hr0_5
 have HC0_5 := Aside0.mk hc0_5
 clear hr0_5 hc0_5
 have HB := Aside0.mk (Below.refl w.heap.size w)
 have H : ((font_fair.f a0_0 a0_1 a0_2 l0_3 l0_4 l0_5 a2).bind fun t243 => (if t243 = true then ((font_find.f a0_0 a0_1 a0_2 l0_3 l0_4 l0_5 a1).bind fun bt244 => (if bt244.2 = true then (if 0 ≤ bt244.1 then (if bt244.1 < (l0_3.length : Int) then ((font_scale.f ((rd_T31 l0_3 bt244.1).f1) a2).bind fun t247 => (some (t247, 0))) else (none)) else (none)) else (some (0, 3)))) else (some (0, 1)))) = some (r1, r2) := h
 clear h
 replace H := Option.bind_eq_some_iff.mp H
 obtain ⟨t243, A40, H⟩ := H
 replace H : (if t243 = true then ((font_find.f a0_0 a0_1 a0_2 l0_3 l0_4 l0_5 a1).bind fun bt244 => (if bt244.2 = true then (if 0 ≤ bt244.1 then (if bt244.1 < (l0_3.length : Int) then ((font_scale.f ((rd_T31 l0_3 bt244.1).f1) a2).bind fun t247 => (some (t247, 0))) else (none)) else (none)) else (some (0, 3)))) else (some (0, 1))) = some (r1, r2) := H
 have A4 := Aside0.mk A40
 clear A40
 by_cases c5 : t243 = true
 ·subst c5
  have H1 : ((font_find.f a0_0 a0_1 a0_2 l0_3 l0_4 l0_5 a1).bind fun bt244 => (if bt244.2 = true then (if 0 ≤ bt244.1 then (if bt244.1 < (l0_3.length : Int) then ((font_scale.f ((rd_T31 l0_3 bt244.1).f1) a2).bind fun t247 => (some (t247, 0))) else (none)) else (none)) else (some (0, 3)))) = some (r1, r2) := by rw [if_pos rfl] at H; exact H
  clear H
  have H := H1
  clear H1
  replace H := Option.bind_eq_some_iff.mp H
  obtain ⟨⟨t244, t245⟩, A60, H⟩ := H
  replace H : (if t245 = true then (if 0 ≤ t244 then (if t244 < (l0_3.length : Int) then ((font_scale.f ((rd_T31 l0_3 t244).f1) a2).bind fun t247 => (some (t247, 0))) else (none)) else (none)) else (some (0, 3))) = some (r1, r2) := H
  have A6 := Aside0.mk A60
  clear A60
  by_cases c7 : t245 = true
  ·subst c7
   have H1 : (if 0 ≤ t244 then (if t244 < (l0_3.length : Int) then ((font_scale.f ((rd_T31 l0_3 t244).f1) a2).bind fun t247 => (some (t247, 0))) else (none)) else (none)) = some (r1, r2) := by rw [if_pos rfl] at H; exact H
   clear H
   have H := H1
   clear H1
   by_cases c8 : 0 ≤ t244
   ·rw [if_pos c8] at H
    have c8b0 : decide (0 ≤ t244) = true := decide_eq_true c8
    clear c8
    by_cases c9 : t244 < (l0_3.length : Int)
    ·rw [if_pos c9] at H
     have c9b0 : decide (t244 < (l0_3.length : Int)) = true := decide_eq_true c9
     clear c9
     replace H := Option.bind_eq_some_iff.mp H
     obtain ⟨t247, A100, H⟩ := H
     replace H : (some (t247, 0)) = some (r1, r2) := H
     have A10 := Aside0.mk A100
     clear A100
     simp only [Option.some.injEq, Prod.mk.injEq] at H
     obtain ⟨rfl, rfl⟩ := H
     go_enter Tryz.func11, Tryz.ntmps11
     go_wp2_with (first | ((with_reducible refine gate_dst (N := 3) rfl ?_); refine box_event ?hg (N := 3) ?hd (cs := #[.string a0_0, .bool a0_1, .int .i64 a0_2, .slice A0_3 l0_3.length c0_3, .slice A0_4 l0_4.length c0_4, .slice A0_5 l0_5.length c0_5]) (t := 26) ?hr ?_; (case hd => rfl); (case hg => rfl); (case hr => first | (go_simp; done) | (go_simp; rfl)); intro gb242 hg w11 hbox hb; have n0_ := Aside0.mk (below_step (by repeat (first | (with_reducible first | exact HB.out | apply below_alloc | apply pw_below_drewN | apply below_drew1) | exact HB.out)) hb); have n1_ := Aside0.mk (hbox); have n2_ := Aside0.mk ((by rw [hg]; exact (below_size (by repeat (first | (with_reducible first | exact HB.out | apply below_alloc | apply pw_below_drewN | apply below_drew1) | exact HB.out))) : w.heap.size ≤ gb242)); have n3_ := Aside0.mk ((by rw [hg]; exact (below_size (by repeat (first | (with_reducible first | exact HB.out | apply below_alloc | apply pw_below_drewN | apply below_drew1) | exact HB.out))) : w.heap.size ≤ gb242)); clear HB; have HB := n0_; have BK242 := n1_; have GW242 := n2_; have GE242 := n3_; clear n0_ n1_ n2_ n3_; clear hb hbox hg; have hcz12_0 : w11.cell? ⟨gb242, 0, none⟩ = some (.string a0_0) := (blk_cell BK242.out 0).trans rfl; have hcz12_1 : w11.cell? ⟨gb242, 1, none⟩ = some (.bool a0_1) := (blk_cell BK242.out 1).trans rfl; have hcz12_2 : w11.cell? ⟨gb242, 2, none⟩ = some (.int .i64 a0_2) := (blk_cell BK242.out 2).trans rfl; have hcz12_3 : w11.cell? ⟨gb242, 3, none⟩ = some (.slice A0_3 l0_3.length c0_3) := (blk_cell BK242.out 3).trans rfl; have hcz12_4 : w11.cell? ⟨gb242, 4, none⟩ = some (.slice A0_4 l0_4.length c0_4) := (blk_cell BK242.out 4).trans rfl; have hcz12_5 : w11.cell? ⟨gb242, 5, none⟩ = some (.slice A0_5 l0_5.length c0_5) := (blk_cell BK242.out 5).trans rfl; have hfz12_0 := blk_frozen BK242.out 0; have hfz12_1 := blk_frozen BK242.out 1; have hfz12_2 := blk_frozen BK242.out 2; have hfz12_3 := blk_frozen BK242.out 3; have hfz12_4 := blk_frozen BK242.out 4; have hfz12_5 := blk_frozen BK242.out 5) | ((with_reducible refine gate_callee (f := 26) rfl ?_); refine goesL_ (some 12) rfl rfl Tryz.func26 (by kernel_rfl) rfl #[.agg #[.string a0_0, .bool a0_1, .int .i64 a0_2, .slice A0_3 l0_3.length c0_3, .slice A0_4 l0_4.length c0_4, .slice A0_5 l0_5.length c0_5], .int .i64 a2] rfl (by (try simp only [List.map_toArray, List.map_cons, List.map_nil]); first | done | rfl | (simp only [List.length_drop, List.length_take]; rfl)) ?_; (with_reducible refine (font_fair.calls a0_0 a0_1 a0_2 _ _ l0_3 _ _ l0_4 _ _ l0_5 a2 true _ ?side1 ?side2 ?side3 ?side4 ?side5 ?side6 ?side7 A4.out).mono ?_); (case side1 => repeat (first | exact (Kd.C_below HR0_3.out HB.out) | (with_reducible refine Kd.C_alloc ?_ _) | (with_reducible refine Kd.C_drewN ?_ _) | (with_reducible refine Kd.C_drew ?_))); (case side2 => exact HC0_3.out); (case side3 => repeat (first | exact (Kd.C_below HR0_4.out HB.out) | (with_reducible refine Kd.C_alloc ?_ _) | (with_reducible refine Kd.C_drewN ?_ _) | (with_reducible refine Kd.C_drew ?_))); (case side4 => exact HC0_4.out); (case side5 => repeat (first | exact (Kd.C_below HR0_5.out HB.out) | (with_reducible refine Kd.C_alloc ?_ _) | (with_reducible refine Kd.C_drewN ?_ _) | (with_reducible refine Kd.C_drew ?_))); (case side6 => exact HC0_5.out); (case side7 => exact GW.under HG.out (by repeat (first | (with_reducible first | exact HB.out | apply below_alloc | apply pw_below_drewN | apply below_drew1 | refine below_set ?_ GE242.out) | exact HB.out))); rintro e w13 ⟨rfl, hb⟩; refine ⟨_, rfl, ?_⟩; have n0_ := Aside0.mk (blk_below (g := gb242) (o := .cells #[.string a0_0, .bool a0_1, .int .i64 a0_2, .slice A0_3 l0_3.length c0_3, .slice A0_4 l0_4.length c0_4, .slice A0_5 l0_5.length c0_5] 26 (0, 0)) (by (with_reducible repeat (first | refine blk_drewN ?_ _ | refine blk_drew ?_ | refine blk_alloc ?_ _)); exact BK242.out) hb); have n1_ := Aside0.mk (below_step (by repeat (first | (with_reducible first | exact HB.out | apply below_alloc | apply pw_below_drewN | apply below_drew1 | refine below_set ?_ GE242.out) | exact HB.out)) hb); clear BK242; clear HB; have BK242 := n0_; have HB := n1_; clear n0_ n1_; (try clear hb); (try clear hb2); (try clear hk); (try clear hi); have hcz14_0 : w13.cell? ⟨gb242, 0, none⟩ = some (.string a0_0) := (blk_cell BK242.out 0).trans rfl; have hcz14_1 : w13.cell? ⟨gb242, 1, none⟩ = some (.bool a0_1) := (blk_cell BK242.out 1).trans rfl; have hcz14_2 : w13.cell? ⟨gb242, 2, none⟩ = some (.int .i64 a0_2) := (blk_cell BK242.out 2).trans rfl; have hcz14_3 : w13.cell? ⟨gb242, 3, none⟩ = some (.slice A0_3 l0_3.length c0_3) := (blk_cell BK242.out 3).trans rfl; have hcz14_4 : w13.cell? ⟨gb242, 4, none⟩ = some (.slice A0_4 l0_4.length c0_4) := (blk_cell BK242.out 4).trans rfl; have hcz14_5 : w13.cell? ⟨gb242, 5, none⟩ = some (.slice A0_5 l0_5.length c0_5) := (blk_cell BK242.out 5).trans rfl; have hfz14_0 := blk_frozen BK242.out 0; have hfz14_1 := blk_frozen BK242.out 1; have hfz14_2 := blk_frozen BK242.out 2; have hfz14_3 := blk_frozen BK242.out 3; have hfz14_4 := blk_frozen BK242.out 4; have hfz14_5 := blk_frozen BK242.out 5) | ((with_reducible refine gate_callee (f := 27) rfl ?_); refine goesL_ (some 17) rfl rfl Tryz.func27 (by kernel_rfl) rfl #[.agg #[.string a0_0, .bool a0_1, .int .i64 a0_2, .slice A0_3 l0_3.length c0_3, .slice A0_4 l0_4.length c0_4, .slice A0_5 l0_5.length c0_5], .string a1] rfl (by (try simp only [List.map_toArray, List.map_cons, List.map_nil]); first | done | rfl | (simp only [List.length_drop, List.length_take]; rfl)) ?_; (with_reducible refine (font_find.calls a0_0 a0_1 a0_2 _ _ l0_3 _ _ l0_4 _ _ l0_5 a1 t244 true _ ?side1 ?side2 ?side3 ?side4 ?side5 ?side6 ?side7 A6.out).mono ?_); (case side1 => repeat (first | exact (Kd.C_below HR0_3.out HB.out) | (with_reducible refine Kd.C_alloc ?_ _) | (with_reducible refine Kd.C_drewN ?_ _) | (with_reducible refine Kd.C_drew ?_))); (case side2 => exact HC0_3.out); (case side3 => repeat (first | exact (Kd.C_below HR0_4.out HB.out) | (with_reducible refine Kd.C_alloc ?_ _) | (with_reducible refine Kd.C_drewN ?_ _) | (with_reducible refine Kd.C_drew ?_))); (case side4 => exact HC0_4.out); (case side5 => repeat (first | exact (Kd.C_below HR0_5.out HB.out) | (with_reducible refine Kd.C_alloc ?_ _) | (with_reducible refine Kd.C_drewN ?_ _) | (with_reducible refine Kd.C_drew ?_))); (case side6 => exact HC0_5.out); (case side7 => exact GW.under HG.out (by repeat (first | (with_reducible first | exact HB.out | apply below_alloc | apply pw_below_drewN | apply below_drew1 | refine below_set ?_ GE242.out) | exact HB.out))); rintro e w15 ⟨rfl, hb⟩; refine ⟨_, rfl, ?_⟩; have n0_ := Aside0.mk (blk_below (g := gb242) (o := .cells #[.string a0_0, .bool a0_1, .int .i64 a0_2, .slice A0_3 l0_3.length c0_3, .slice A0_4 l0_4.length c0_4, .slice A0_5 l0_5.length c0_5] 26 (0, 0)) (by (with_reducible repeat (first | refine blk_drewN ?_ _ | refine blk_drew ?_ | refine blk_alloc ?_ _)); exact BK242.out) hb); have n1_ := Aside0.mk (below_step (by repeat (first | (with_reducible first | exact HB.out | apply below_alloc | apply pw_below_drewN | apply below_drew1 | refine below_set ?_ GE242.out) | exact HB.out)) hb); clear BK242; clear HB; have BK242 := n0_; have HB := n1_; clear n0_ n1_; (try clear hb); (try clear hb2); (try clear hk); (try clear hi); have hcz16_0 : w15.cell? ⟨gb242, 0, none⟩ = some (.string a0_0) := (blk_cell BK242.out 0).trans rfl; have hcz16_1 : w15.cell? ⟨gb242, 1, none⟩ = some (.bool a0_1) := (blk_cell BK242.out 1).trans rfl; have hcz16_2 : w15.cell? ⟨gb242, 2, none⟩ = some (.int .i64 a0_2) := (blk_cell BK242.out 2).trans rfl; have hcz16_3 : w15.cell? ⟨gb242, 3, none⟩ = some (.slice A0_3 l0_3.length c0_3) := (blk_cell BK242.out 3).trans rfl; have hcz16_4 : w15.cell? ⟨gb242, 4, none⟩ = some (.slice A0_4 l0_4.length c0_4) := (blk_cell BK242.out 4).trans rfl; have hcz16_5 : w15.cell? ⟨gb242, 5, none⟩ = some (.slice A0_5 l0_5.length c0_5) := (blk_cell BK242.out 5).trans rfl; have hfz16_0 := blk_frozen BK242.out 0; have hfz16_1 := blk_frozen BK242.out 1; have hfz16_2 := blk_frozen BK242.out 2; have hfz16_3 := blk_frozen BK242.out 3; have hfz16_4 := blk_frozen BK242.out 4; have hfz16_5 := blk_frozen BK242.out 5; have p246 : 0 ≤ (t244 : Int) := of_decide_eq_true (by first | (with_reducible assumption) | assumption); have q246 : t244 < (l0_3.length : Int) := of_decide_eq_true (by first | (with_reducible assumption) | assumption); obtain ⟨ad246, e246, hx246_0, hx246_1⟩ := at_T31 HR0_3.out t244 p246 q246; cases e246; replace hx246_0 := (HB.out.cell (World.block_lt_of_cell? w _ hx246_0)).trans hx246_0; replace hx246_1 := (HB.out.cell (World.block_lt_of_cell? w _ hx246_1)).trans hx246_1; replace p246 := eq_true p246; replace q246 := eq_true q246) | ((with_reducible refine gate_callee (f := 28) rfl ?_); refine goesL_ (some 29) rfl rfl Tryz.func28 (by kernel_rfl) rfl #[.int .i64 ((rd_T31 l0_3 t244).f1), .int .i64 a2] rfl (by (try simp only [List.map_toArray, List.map_cons, List.map_nil]); first | done | rfl | (simp only [List.length_drop, List.length_take]; rfl)) ?_; (with_reducible refine (font_scale.calls ((rd_T31 l0_3 t244).f1) a2 t247 _ A10.out).mono ?_); rintro e w' ⟨rfl, ⟨nd, rfl⟩⟩; refine ⟨_, rfl, ?_⟩))
     go_ret2
     exact ⟨by first | rfl | (simp [errW_none, errW_some] <;> rfl) | (simp [*, errW_none, errW_some] <;> rfl), by repeat (first | (with_reducible first | exact HB.out | apply below_alloc | apply pw_below_drewN | apply below_drew1 | refine below_set ?_ GE242.out) | exact HB.out)⟩
    ·rw [if_neg c9] at H
     exact absurd H (by simp)
   ·rw [if_neg c8] at H
    exact absurd H (by simp)
  ·replace c7 := Bool.eq_false_iff.mpr c7
   subst c7
   have H1 : (some (0, 3)) = some (r1, r2) := by rw [if_neg (show ¬ (false = true) by decide)] at H; exact H
   clear H
   have H := H1
   clear H1
   simp only [Option.some.injEq, Prod.mk.injEq] at H
   obtain ⟨rfl, rfl⟩ := H
   go_enter Tryz.func11, Tryz.ntmps11
   go_wp2_with (first | ((with_reducible refine gate_dst (N := 3) rfl ?_); refine box_event ?hg (N := 3) ?hd (cs := #[.string a0_0, .bool a0_1, .int .i64 a0_2, .slice A0_3 l0_3.length c0_3, .slice A0_4 l0_4.length c0_4, .slice A0_5 l0_5.length c0_5]) (t := 26) ?hr ?_; (case hd => rfl); (case hg => rfl); (case hr => first | (go_simp; done) | (go_simp; rfl)); intro gb242 hg w17 hbox hb; have n0_ := Aside0.mk (below_step (by repeat (first | (with_reducible first | exact HB.out | apply below_alloc | apply pw_below_drewN | apply below_drew1) | exact HB.out)) hb); have n1_ := Aside0.mk (hbox); have n2_ := Aside0.mk ((by rw [hg]; exact (below_size (by repeat (first | (with_reducible first | exact HB.out | apply below_alloc | apply pw_below_drewN | apply below_drew1) | exact HB.out))) : w.heap.size ≤ gb242)); have n3_ := Aside0.mk ((by rw [hg]; exact (below_size (by repeat (first | (with_reducible first | exact HB.out | apply below_alloc | apply pw_below_drewN | apply below_drew1) | exact HB.out))) : w.heap.size ≤ gb242)); clear HB; have HB := n0_; have BK242 := n1_; have GW242 := n2_; have GE242 := n3_; clear n0_ n1_ n2_ n3_; clear hb hbox hg; have hcz18_0 : w17.cell? ⟨gb242, 0, none⟩ = some (.string a0_0) := (blk_cell BK242.out 0).trans rfl; have hcz18_1 : w17.cell? ⟨gb242, 1, none⟩ = some (.bool a0_1) := (blk_cell BK242.out 1).trans rfl; have hcz18_2 : w17.cell? ⟨gb242, 2, none⟩ = some (.int .i64 a0_2) := (blk_cell BK242.out 2).trans rfl; have hcz18_3 : w17.cell? ⟨gb242, 3, none⟩ = some (.slice A0_3 l0_3.length c0_3) := (blk_cell BK242.out 3).trans rfl; have hcz18_4 : w17.cell? ⟨gb242, 4, none⟩ = some (.slice A0_4 l0_4.length c0_4) := (blk_cell BK242.out 4).trans rfl; have hcz18_5 : w17.cell? ⟨gb242, 5, none⟩ = some (.slice A0_5 l0_5.length c0_5) := (blk_cell BK242.out 5).trans rfl; have hfz18_0 := blk_frozen BK242.out 0; have hfz18_1 := blk_frozen BK242.out 1; have hfz18_2 := blk_frozen BK242.out 2; have hfz18_3 := blk_frozen BK242.out 3; have hfz18_4 := blk_frozen BK242.out 4; have hfz18_5 := blk_frozen BK242.out 5) | ((with_reducible refine gate_callee (f := 26) rfl ?_); refine goesL_ (some 12) rfl rfl Tryz.func26 (by kernel_rfl) rfl #[.agg #[.string a0_0, .bool a0_1, .int .i64 a0_2, .slice A0_3 l0_3.length c0_3, .slice A0_4 l0_4.length c0_4, .slice A0_5 l0_5.length c0_5], .int .i64 a2] rfl (by (try simp only [List.map_toArray, List.map_cons, List.map_nil]); first | done | rfl | (simp only [List.length_drop, List.length_take]; rfl)) ?_; (with_reducible refine (font_fair.calls a0_0 a0_1 a0_2 _ _ l0_3 _ _ l0_4 _ _ l0_5 a2 true _ ?side1 ?side2 ?side3 ?side4 ?side5 ?side6 ?side7 A4.out).mono ?_); (case side1 => repeat (first | exact (Kd.C_below HR0_3.out HB.out) | (with_reducible refine Kd.C_alloc ?_ _) | (with_reducible refine Kd.C_drewN ?_ _) | (with_reducible refine Kd.C_drew ?_))); (case side2 => exact HC0_3.out); (case side3 => repeat (first | exact (Kd.C_below HR0_4.out HB.out) | (with_reducible refine Kd.C_alloc ?_ _) | (with_reducible refine Kd.C_drewN ?_ _) | (with_reducible refine Kd.C_drew ?_))); (case side4 => exact HC0_4.out); (case side5 => repeat (first | exact (Kd.C_below HR0_5.out HB.out) | (with_reducible refine Kd.C_alloc ?_ _) | (with_reducible refine Kd.C_drewN ?_ _) | (with_reducible refine Kd.C_drew ?_))); (case side6 => exact HC0_5.out); (case side7 => exact GW.under HG.out (by repeat (first | (with_reducible first | exact HB.out | apply below_alloc | apply pw_below_drewN | apply below_drew1 | refine below_set ?_ GE242.out) | exact HB.out))); rintro e w19 ⟨rfl, hb⟩; refine ⟨_, rfl, ?_⟩; have n0_ := Aside0.mk (blk_below (g := gb242) (o := .cells #[.string a0_0, .bool a0_1, .int .i64 a0_2, .slice A0_3 l0_3.length c0_3, .slice A0_4 l0_4.length c0_4, .slice A0_5 l0_5.length c0_5] 26 (0, 0)) (by (with_reducible repeat (first | refine blk_drewN ?_ _ | refine blk_drew ?_ | refine blk_alloc ?_ _)); exact BK242.out) hb); have n1_ := Aside0.mk (below_step (by repeat (first | (with_reducible first | exact HB.out | apply below_alloc | apply pw_below_drewN | apply below_drew1 | refine below_set ?_ GE242.out) | exact HB.out)) hb); clear BK242; clear HB; have BK242 := n0_; have HB := n1_; clear n0_ n1_; (try clear hb); (try clear hb2); (try clear hk); (try clear hi); have hcz20_0 : w19.cell? ⟨gb242, 0, none⟩ = some (.string a0_0) := (blk_cell BK242.out 0).trans rfl; have hcz20_1 : w19.cell? ⟨gb242, 1, none⟩ = some (.bool a0_1) := (blk_cell BK242.out 1).trans rfl; have hcz20_2 : w19.cell? ⟨gb242, 2, none⟩ = some (.int .i64 a0_2) := (blk_cell BK242.out 2).trans rfl; have hcz20_3 : w19.cell? ⟨gb242, 3, none⟩ = some (.slice A0_3 l0_3.length c0_3) := (blk_cell BK242.out 3).trans rfl; have hcz20_4 : w19.cell? ⟨gb242, 4, none⟩ = some (.slice A0_4 l0_4.length c0_4) := (blk_cell BK242.out 4).trans rfl; have hcz20_5 : w19.cell? ⟨gb242, 5, none⟩ = some (.slice A0_5 l0_5.length c0_5) := (blk_cell BK242.out 5).trans rfl; have hfz20_0 := blk_frozen BK242.out 0; have hfz20_1 := blk_frozen BK242.out 1; have hfz20_2 := blk_frozen BK242.out 2; have hfz20_3 := blk_frozen BK242.out 3; have hfz20_4 := blk_frozen BK242.out 4; have hfz20_5 := blk_frozen BK242.out 5) | ((with_reducible refine gate_callee (f := 27) rfl ?_); refine goesL_ (some 17) rfl rfl Tryz.func27 (by kernel_rfl) rfl #[.agg #[.string a0_0, .bool a0_1, .int .i64 a0_2, .slice A0_3 l0_3.length c0_3, .slice A0_4 l0_4.length c0_4, .slice A0_5 l0_5.length c0_5], .string a1] rfl (by (try simp only [List.map_toArray, List.map_cons, List.map_nil]); first | done | rfl | (simp only [List.length_drop, List.length_take]; rfl)) ?_; (with_reducible refine (font_find.calls a0_0 a0_1 a0_2 _ _ l0_3 _ _ l0_4 _ _ l0_5 a1 t244 false _ ?side1 ?side2 ?side3 ?side4 ?side5 ?side6 ?side7 A6.out).mono ?_); (case side1 => repeat (first | exact (Kd.C_below HR0_3.out HB.out) | (with_reducible refine Kd.C_alloc ?_ _) | (with_reducible refine Kd.C_drewN ?_ _) | (with_reducible refine Kd.C_drew ?_))); (case side2 => exact HC0_3.out); (case side3 => repeat (first | exact (Kd.C_below HR0_4.out HB.out) | (with_reducible refine Kd.C_alloc ?_ _) | (with_reducible refine Kd.C_drewN ?_ _) | (with_reducible refine Kd.C_drew ?_))); (case side4 => exact HC0_4.out); (case side5 => repeat (first | exact (Kd.C_below HR0_5.out HB.out) | (with_reducible refine Kd.C_alloc ?_ _) | (with_reducible refine Kd.C_drewN ?_ _) | (with_reducible refine Kd.C_drew ?_))); (case side6 => exact HC0_5.out); (case side7 => exact GW.under HG.out (by repeat (first | (with_reducible first | exact HB.out | apply below_alloc | apply pw_below_drewN | apply below_drew1 | refine below_set ?_ GE242.out) | exact HB.out))); rintro e w21 ⟨rfl, hb⟩; refine ⟨_, rfl, ?_⟩; have n0_ := Aside0.mk (blk_below (g := gb242) (o := .cells #[.string a0_0, .bool a0_1, .int .i64 a0_2, .slice A0_3 l0_3.length c0_3, .slice A0_4 l0_4.length c0_4, .slice A0_5 l0_5.length c0_5] 26 (0, 0)) (by (with_reducible repeat (first | refine blk_drewN ?_ _ | refine blk_drew ?_ | refine blk_alloc ?_ _)); exact BK242.out) hb); have n1_ := Aside0.mk (below_step (by repeat (first | (with_reducible first | exact HB.out | apply below_alloc | apply pw_below_drewN | apply below_drew1 | refine below_set ?_ GE242.out) | exact HB.out)) hb); clear BK242; clear HB; have BK242 := n0_; have HB := n1_; clear n0_ n1_; (try clear hb); (try clear hb2); (try clear hk); (try clear hi)))
   go_ret2
   exact ⟨by first | rfl | (simp [errW_none, errW_some] <;> rfl) | (simp [*, errW_none, errW_some] <;> rfl), by repeat (first | (with_reducible first | exact HB.out | apply below_alloc | apply pw_below_drewN | apply below_drew1 | refine below_set ?_ GE242.out) | exact HB.out)⟩
 ·replace c5 := Bool.eq_false_iff.mpr c5
  subst c5
  have H1 : (some (0, 1)) = some (r1, r2) := by rw [if_neg (show ¬ (false = true) by decide)] at H; exact H
  clear H
  have H := H1
  clear H1
  simp only [Option.some.injEq, Prod.mk.injEq] at H
  obtain ⟨rfl, rfl⟩ := H
  go_enter Tryz.func11, Tryz.ntmps11
  go_wp2_with (first | ((with_reducible refine gate_dst (N := 3) rfl ?_); refine box_event ?hg (N := 3) ?hd (cs := #[.string a0_0, .bool a0_1, .int .i64 a0_2, .slice A0_3 l0_3.length c0_3, .slice A0_4 l0_4.length c0_4, .slice A0_5 l0_5.length c0_5]) (t := 26) ?hr ?_; (case hd => rfl); (case hg => rfl); (case hr => first | (go_simp; done) | (go_simp; rfl)); intro gb242 hg w22 hbox hb; have n0_ := Aside0.mk (below_step (by repeat (first | (with_reducible first | exact HB.out | apply below_alloc | apply pw_below_drewN | apply below_drew1) | exact HB.out)) hb); have n1_ := Aside0.mk (hbox); have n2_ := Aside0.mk ((by rw [hg]; exact (below_size (by repeat (first | (with_reducible first | exact HB.out | apply below_alloc | apply pw_below_drewN | apply below_drew1) | exact HB.out))) : w.heap.size ≤ gb242)); have n3_ := Aside0.mk ((by rw [hg]; exact (below_size (by repeat (first | (with_reducible first | exact HB.out | apply below_alloc | apply pw_below_drewN | apply below_drew1) | exact HB.out))) : w.heap.size ≤ gb242)); clear HB; have HB := n0_; have BK242 := n1_; have GW242 := n2_; have GE242 := n3_; clear n0_ n1_ n2_ n3_; clear hb hbox hg; have hcz23_0 : w22.cell? ⟨gb242, 0, none⟩ = some (.string a0_0) := (blk_cell BK242.out 0).trans rfl; have hcz23_1 : w22.cell? ⟨gb242, 1, none⟩ = some (.bool a0_1) := (blk_cell BK242.out 1).trans rfl; have hcz23_2 : w22.cell? ⟨gb242, 2, none⟩ = some (.int .i64 a0_2) := (blk_cell BK242.out 2).trans rfl; have hcz23_3 : w22.cell? ⟨gb242, 3, none⟩ = some (.slice A0_3 l0_3.length c0_3) := (blk_cell BK242.out 3).trans rfl; have hcz23_4 : w22.cell? ⟨gb242, 4, none⟩ = some (.slice A0_4 l0_4.length c0_4) := (blk_cell BK242.out 4).trans rfl; have hcz23_5 : w22.cell? ⟨gb242, 5, none⟩ = some (.slice A0_5 l0_5.length c0_5) := (blk_cell BK242.out 5).trans rfl; have hfz23_0 := blk_frozen BK242.out 0; have hfz23_1 := blk_frozen BK242.out 1; have hfz23_2 := blk_frozen BK242.out 2; have hfz23_3 := blk_frozen BK242.out 3; have hfz23_4 := blk_frozen BK242.out 4; have hfz23_5 := blk_frozen BK242.out 5) | ((with_reducible refine gate_callee (f := 26) rfl ?_); refine goesL_ (some 12) rfl rfl Tryz.func26 (by kernel_rfl) rfl #[.agg #[.string a0_0, .bool a0_1, .int .i64 a0_2, .slice A0_3 l0_3.length c0_3, .slice A0_4 l0_4.length c0_4, .slice A0_5 l0_5.length c0_5], .int .i64 a2] rfl (by (try simp only [List.map_toArray, List.map_cons, List.map_nil]); first | done | rfl | (simp only [List.length_drop, List.length_take]; rfl)) ?_; (with_reducible refine (font_fair.calls a0_0 a0_1 a0_2 _ _ l0_3 _ _ l0_4 _ _ l0_5 a2 false _ ?side1 ?side2 ?side3 ?side4 ?side5 ?side6 ?side7 A4.out).mono ?_); (case side1 => repeat (first | exact (Kd.C_below HR0_3.out HB.out) | (with_reducible refine Kd.C_alloc ?_ _) | (with_reducible refine Kd.C_drewN ?_ _) | (with_reducible refine Kd.C_drew ?_))); (case side2 => exact HC0_3.out); (case side3 => repeat (first | exact (Kd.C_below HR0_4.out HB.out) | (with_reducible refine Kd.C_alloc ?_ _) | (with_reducible refine Kd.C_drewN ?_ _) | (with_reducible refine Kd.C_drew ?_))); (case side4 => exact HC0_4.out); (case side5 => repeat (first | exact (Kd.C_below HR0_5.out HB.out) | (with_reducible refine Kd.C_alloc ?_ _) | (with_reducible refine Kd.C_drewN ?_ _) | (with_reducible refine Kd.C_drew ?_))); (case side6 => exact HC0_5.out); (case side7 => exact GW.under HG.out (by repeat (first | (with_reducible first | exact HB.out | apply below_alloc | apply pw_below_drewN | apply below_drew1 | refine below_set ?_ GE242.out) | exact HB.out))); rintro e w24 ⟨rfl, hb⟩; refine ⟨_, rfl, ?_⟩; have n0_ := Aside0.mk (blk_below (g := gb242) (o := .cells #[.string a0_0, .bool a0_1, .int .i64 a0_2, .slice A0_3 l0_3.length c0_3, .slice A0_4 l0_4.length c0_4, .slice A0_5 l0_5.length c0_5] 26 (0, 0)) (by (with_reducible repeat (first | refine blk_drewN ?_ _ | refine blk_drew ?_ | refine blk_alloc ?_ _)); exact BK242.out) hb); have n1_ := Aside0.mk (below_step (by repeat (first | (with_reducible first | exact HB.out | apply below_alloc | apply pw_below_drewN | apply below_drew1 | refine below_set ?_ GE242.out) | exact HB.out)) hb); clear BK242; clear HB; have BK242 := n0_; have HB := n1_; clear n0_ n1_; (try clear hb); (try clear hb2); (try clear hk); (try clear hi)))
  go_ret2
  exact ⟨by first | rfl | (simp [errW_none, errW_some] <;> rfl) | (simp [*, errW_none, errW_some] <;> rfl), by repeat (first | (with_reducible first | exact HB.out | apply below_alloc | apply pw_below_drewN | apply below_drew1 | refine below_set ?_ GE242.out) | exact HB.out)⟩
def frisketlaw07_sane.f  : Option (Bool) := (font_Standard.f).bind fun t248 => (if (t248.length : Int) = 5 then (if 0 < (t248.length : Int) then ((font_Width.f ((rd_T26 t248 0).f0) ((rd_T26 t248 0).f1) ((rd_T26 t248 0).f2) ((rd_T26 t248 0).f3) ((rd_T26 t248 0).f4) ((rd_T26 t248 0).f5) (⟨#[109]⟩ : ByteArray) 10).bind fun bt252 => (if bt252.1 = 75 then (some (bt252.2 == 0)) else (some false))) else (none)) else (some false))
set_option maxHeartbeats 8000000 in
set_option maxRecDepth 100000 in
theorem frisketlaw07_sane.calls  (r : Bool) (w : World) (hG : GW w) (h : frisketlaw07_sane.f  = some r) :
  Calls Tryz.prog 12 #[] w fun e w' => e = .returned (.bool r) ∧ Below w.heap.size w w' := by
 have hu26 := Tryz.underlying26
 have HG := Aside0.mk hG
 clear hG
 have HB := Aside0.mk (Below.refl w.heap.size w)
 have H : ((font_Standard.f).bind fun t248 => (if (t248.length : Int) = 5 then (if 0 < (t248.length : Int) then ((font_Width.f ((rd_T26 t248 0).f0) ((rd_T26 t248 0).f1) ((rd_T26 t248 0).f2) ((rd_T26 t248 0).f3) ((rd_T26 t248 0).f4) ((rd_T26 t248 0).f5) (⟨#[109]⟩ : ByteArray) 10).bind fun bt252 => (if bt252.1 = 75 then (some (bt252.2 == 0)) else (some false))) else (none)) else (some false))) = some r := h
 clear h
 replace H := Option.bind_eq_some_iff.mp H
 obtain ⟨t248, A10, H⟩ := H
 replace H : (if (t248.length : Int) = 5 then (if 0 < (t248.length : Int) then ((font_Width.f ((rd_T26 t248 0).f0) ((rd_T26 t248 0).f1) ((rd_T26 t248 0).f2) ((rd_T26 t248 0).f3) ((rd_T26 t248 0).f4) ((rd_T26 t248 0).f5) (⟨#[109]⟩ : ByteArray) 10).bind fun bt252 => (if bt252.1 = 75 then (some (bt252.2 == 0)) else (some false))) else (none)) else (some false)) = some r := H
 have A1 := Aside0.mk A10
 clear A10
 by_cases c2 : (t248.length : Int) = 5
 ·rw [if_pos c2] at H
  have c2b0 : ((t248.length : Int) == 5) = true := beq_iff_eq.mpr c2
  have c2b1 : ((t248.length : Int) != 5) = false := bne_eq_false_iff_eq.mpr c2
  clear c2
  by_cases c3 : 0 < (t248.length : Int)
  ·rw [if_pos c3] at H
   have c3b0 : decide (0 < (t248.length : Int)) = true := decide_eq_true c3
   have c3b1 : decide (0 < t248.length) = true := decide_eq_true (by omega)
   clear c3
   replace H := Option.bind_eq_some_iff.mp H
   obtain ⟨⟨t252, t253⟩, A40, H⟩ := H
   replace H : (if t252 = 75 then (some (t253 == 0)) else (some false)) = some r := H
   have A4 := Aside0.mk A40
   clear A40
   by_cases c5 : t252 = 75
   ·rw [if_pos c5] at H
    have c5b0 : (t252 == 75) = true := beq_iff_eq.mpr c5
    have c5b1 : (t252 != 75) = false := bne_eq_false_iff_eq.mpr c5
    clear c5
    obtain rfl := Option.some.inj H
    go_enter Tryz.func12, Tryz.ntmps12
    go_wp2_with (first | ((with_reducible refine gate_callee (f := 13) rfl ?_); refine goesL_ (some 4) rfl rfl Tryz.func13 (by kernel_rfl) rfl #[] rfl (by (try simp only [List.map_toArray, List.map_cons, List.map_nil]); first | done | rfl | (simp only [List.length_drop, List.length_take]; rfl)) ?_; (with_reducible refine (font_Standard.calls  t248 _ ?side1 A1.out).mono ?_); (case side1 => exact GW.under HG.out (by repeat (first | (with_reducible first | exact HB.out | apply below_alloc | apply pw_below_drewN | apply below_drew1) | exact HB.out))); rintro e w6 ⟨v249, rfl, ho0, hb⟩; refine ⟨_, rfl, ?_⟩; have n0_ := Aside0.mk (Kd.S_lower ho0 (below_size (by repeat (first | (with_reducible first | exact HB.out | apply below_alloc | apply pw_below_drewN | apply below_drew1) | exact HB.out)))); have n1_ := Aside0.mk (below_step (by repeat (first | (with_reducible first | exact HB.out | apply below_alloc | apply pw_below_drewN | apply below_drew1) | exact HB.out)) hb); clear HB; have HO250 := n0_; have HB := n1_; clear n0_ n1_; (try clear hb); (try clear hb2); (try clear hk); (try clear hi); (try clear ho0); obtain ⟨Ao7, co7, eo7⟩ := Kd.S_slice HO250.out; subst eo7; have p251 : 0 ≤ (0 : Int) := (by omega); have q251 : 0 < (t248.length : Int) := of_decide_eq_true (by first | (with_reducible assumption) | assumption); obtain ⟨ad251, A251_3, c251_3, A251_4, c251_4, A251_5, c251_5, e251, hx251_0, hx251_1, hx251_2, hx251_3, hx251_4, hx251_5, hl251_3, hi251_3, hl251_4, hi251_4, hl251_5, hi251_5⟩ := at_T26 (Kd.S_reads' HO250.out).2.2 0 p251 q251; cases e251; obtain ⟨ce251, hce251, hMe251, hcc251⟩ := Kd.S_get HO250.out z26 0 p251 (by first | exact q251 | exact of_decide_eq_true (by first | (with_reducible assumption) | assumption) | (have e_ := (Kd.S_reads' HO250.out).1; omega)); obtain ⟨ve251_3, ve251_4, ve251_5, rfl, ge251_3, ge251_4, ge251_5⟩ := k26_openM hMe251; have hv251_3 := hcc251 3 _ rfl; rw [add_field _ _ 3 (by omega)] at hv251_3; replace hv251_3 := Option.some.inj (hv251_3.symm.trans hx251_3); rw [hv251_3] at ge251_3; have HL251_3 := Aside0.mk (show Kd.R k31 31 _ _ _ _ ((rd_T26 t248 0).f3) from ge251_3); clear hv251_3 ge251_3; have hv251_4 := hcc251 4 _ rfl; rw [add_field _ _ 4 (by omega)] at hv251_4; replace hv251_4 := Option.some.inj (hv251_4.symm.trans hx251_4); rw [hv251_4] at ge251_4; have HL251_4 := Aside0.mk (show Kd.R k86 86 _ _ _ _ ((rd_T26 t248 0).f4) from ge251_4); clear hv251_4 ge251_4; have hv251_5 := hcc251 5 _ rfl; rw [add_field _ _ 5 (by omega)] at hv251_5; replace hv251_5 := Option.some.inj (hv251_5.symm.trans hx251_5); rw [hv251_5] at ge251_5; have HL251_5 := Aside0.mk (show Kd.R k76 76 _ _ _ _ ((rd_T26 t248 0).f5) from ge251_5); clear hv251_5 ge251_5; clear hcc251 hce251; have qi251 : (0 < t248.length) = True := eq_true (by omega); (try rw [show ((0 : Int)).toNat = 0 from rfl] at hx251_0); (try rw [show 0 * 6 = 0 from rfl] at hx251_0); (try rw [Addr.add_zero'] at hx251_0); (try rw [show ((0 : Int)).toNat = 0 from rfl] at hx251_1); (try rw [show 0 * 6 = 0 from rfl] at hx251_1); (try rw [Addr.add_zero'] at hx251_1); (try rw [show ((0 : Int)).toNat = 0 from rfl] at hx251_2); (try rw [show 0 * 6 = 0 from rfl] at hx251_2); (try rw [Addr.add_zero'] at hx251_2); (try rw [show ((0 : Int)).toNat = 0 from rfl] at hx251_3); (try rw [show 0 * 6 = 0 from rfl] at hx251_3); (try rw [Addr.add_zero'] at hx251_3); (try rw [show ((0 : Int)).toNat = 0 from rfl] at hx251_4); (try rw [show 0 * 6 = 0 from rfl] at hx251_4); (try rw [Addr.add_zero'] at hx251_4); (try rw [show ((0 : Int)).toNat = 0 from rfl] at hx251_5); (try rw [show 0 * 6 = 0 from rfl] at hx251_5); (try rw [Addr.add_zero'] at hx251_5); have HR251_3 := Aside0.mk hi251_3; have HC251_3 := Aside0.mk hl251_3; clear hi251_3 hl251_3; have HR251_4 := Aside0.mk hi251_4; have HC251_4 := Aside0.mk hl251_4; clear hi251_4 hl251_4; have HR251_5 := Aside0.mk hi251_5; have HC251_5 := Aside0.mk hl251_5; clear hi251_5 hl251_5; replace p251 := eq_true p251; replace q251 := eq_true q251) | ((with_reducible refine gate_callee (f := 11) rfl ?_); refine goesL_ (some 12) rfl rfl Tryz.func11 (by kernel_rfl) rfl #[.agg #[.string ((rd_T26 t248 0).f0), .bool ((rd_T26 t248 0).f1), .int .i64 ((rd_T26 t248 0).f2), .slice A251_3 ((rd_T26 t248 0).f3).length c251_3, .slice A251_4 ((rd_T26 t248 0).f4).length c251_4, .slice A251_5 ((rd_T26 t248 0).f5).length c251_5], .string (⟨#[109]⟩ : ByteArray), .int .i64 10] rfl (by (try simp only [List.map_toArray, List.map_cons, List.map_nil]); first | done | rfl | (simp only [List.length_drop, List.length_take]; rfl)) ?_; (with_reducible refine (font_Width.calls ((rd_T26 t248 0).f0) ((rd_T26 t248 0).f1) ((rd_T26 t248 0).f2) _ _ ((rd_T26 t248 0).f3) _ _ ((rd_T26 t248 0).f4) _ _ ((rd_T26 t248 0).f5) (⟨#[109]⟩ : ByteArray) 10 t252 t253 _ ?side1 ?side2 ?side3 ?side4 ?side5 ?side6 ?side7 A4.out).mono ?_); (case side1 => repeat (first | exact (by repeat (first | (with_reducible exact HR251_3.out) | (with_reducible refine Kd.C_alloc ?_ _) | (with_reducible refine Kd.C_drewN ?_ _) | (with_reducible refine Kd.C_drew ?_) | exact HR251_3.out)) | (with_reducible refine Kd.C_alloc ?_ _) | (with_reducible refine Kd.C_drewN ?_ _) | (with_reducible refine Kd.C_drew ?_))); (case side2 => exact HC251_3.out); (case side3 => repeat (first | exact (by repeat (first | (with_reducible exact HR251_4.out) | (with_reducible refine Kd.C_alloc ?_ _) | (with_reducible refine Kd.C_drewN ?_ _) | (with_reducible refine Kd.C_drew ?_) | exact HR251_4.out)) | (with_reducible refine Kd.C_alloc ?_ _) | (with_reducible refine Kd.C_drewN ?_ _) | (with_reducible refine Kd.C_drew ?_))); (case side4 => exact HC251_4.out); (case side5 => repeat (first | exact (by repeat (first | (with_reducible exact HR251_5.out) | (with_reducible refine Kd.C_alloc ?_ _) | (with_reducible refine Kd.C_drewN ?_ _) | (with_reducible refine Kd.C_drew ?_) | exact HR251_5.out)) | (with_reducible refine Kd.C_alloc ?_ _) | (with_reducible refine Kd.C_drewN ?_ _) | (with_reducible refine Kd.C_drew ?_))); (case side6 => exact HC251_5.out); (case side7 => exact GW.under HG.out (by repeat (first | (with_reducible first | exact HB.out | apply below_alloc | apply pw_below_drewN | apply below_drew1) | exact HB.out))); rintro e w8 ⟨rfl, hb⟩; refine ⟨_, rfl, ?_⟩; have n0_ := Aside0.mk (Kd.S_below (by (with_reducible repeat (first | apply Kd.S_alloc | apply Kd.S_drewN | apply Kd.S_drew)); exact HO250.out) hb); have n1_ := Aside0.mk (Kd.R_below (by (with_reducible repeat (first | apply Kd.R_alloc | apply Kd.R_drewN | apply Kd.R_drew)); exact HL251_3.out) hb); have n2_ := Aside0.mk (Kd.R_below (by (with_reducible repeat (first | apply Kd.R_alloc | apply Kd.R_drewN | apply Kd.R_drew)); exact HL251_4.out) hb); have n3_ := Aside0.mk (Kd.R_below (by (with_reducible repeat (first | apply Kd.R_alloc | apply Kd.R_drewN | apply Kd.R_drew)); exact HL251_5.out) hb); have n4_ := Aside0.mk (Kd.C_below (by repeat (first | (with_reducible exact HR251_3.out) | (with_reducible refine Kd.C_alloc ?_ _) | (with_reducible refine Kd.C_drewN ?_ _) | (with_reducible refine Kd.C_drew ?_) | exact HR251_3.out)) hb); have n5_ := Aside0.mk (Kd.C_below (by repeat (first | (with_reducible exact HR251_4.out) | (with_reducible refine Kd.C_alloc ?_ _) | (with_reducible refine Kd.C_drewN ?_ _) | (with_reducible refine Kd.C_drew ?_) | exact HR251_4.out)) hb); have n6_ := Aside0.mk (Kd.C_below (by repeat (first | (with_reducible exact HR251_5.out) | (with_reducible refine Kd.C_alloc ?_ _) | (with_reducible refine Kd.C_drewN ?_ _) | (with_reducible refine Kd.C_drew ?_) | exact HR251_5.out)) hb); have n7_ := Aside0.mk (below_step (by repeat (first | (with_reducible first | exact HB.out | apply below_alloc | apply pw_below_drewN | apply below_drew1) | exact HB.out)) hb); clear HO250; clear HL251_3; clear HL251_4; clear HL251_5; clear HR251_3; clear HR251_4; clear HR251_5; clear HB; have HO250 := n0_; have HL251_3 := n1_; have HL251_4 := n2_; have HL251_5 := n3_; have HR251_3 := n4_; have HR251_4 := n5_; have HR251_5 := n6_; have HB := n7_; clear n0_ n1_ n2_ n3_ n4_ n5_ n6_ n7_; (try clear hb); (try clear hb2); (try clear hk); (try clear hi)))
    go_ret
    exact ⟨by first | rfl | (simp [errW_none, errW_some] <;> rfl) | (simp [*, errW_none, errW_some] <;> rfl), by repeat (first | (with_reducible first | exact HB.out | apply below_alloc | apply pw_below_drewN | apply below_drew1) | exact HB.out)⟩
   ·rw [if_neg c5] at H
    have c5b0 : (t252 == 75) = false := beq_eq_false_iff_ne.mpr c5
    have c5b1 : (t252 != 75) = true := bne_iff_ne.mpr c5
    obtain rfl := Option.some.inj H
    go_enter Tryz.func12, Tryz.ntmps12
    go_wp2_with (first | ((with_reducible refine gate_callee (f := 13) rfl ?_); refine goesL_ (some 4) rfl rfl Tryz.func13 (by kernel_rfl) rfl #[] rfl (by (try simp only [List.map_toArray, List.map_cons, List.map_nil]); first | done | rfl | (simp only [List.length_drop, List.length_take]; rfl)) ?_; (with_reducible refine (font_Standard.calls  t248 _ ?side1 A1.out).mono ?_); (case side1 => exact GW.under HG.out (by repeat (first | (with_reducible first | exact HB.out | apply below_alloc | apply pw_below_drewN | apply below_drew1) | exact HB.out))); rintro e w9 ⟨v249, rfl, ho0, hb⟩; refine ⟨_, rfl, ?_⟩; have n0_ := Aside0.mk (Kd.S_lower ho0 (below_size (by repeat (first | (with_reducible first | exact HB.out | apply below_alloc | apply pw_below_drewN | apply below_drew1) | exact HB.out)))); have n1_ := Aside0.mk (below_step (by repeat (first | (with_reducible first | exact HB.out | apply below_alloc | apply pw_below_drewN | apply below_drew1) | exact HB.out)) hb); clear HB; have HO250 := n0_; have HB := n1_; clear n0_ n1_; (try clear hb); (try clear hb2); (try clear hk); (try clear hi); (try clear ho0); obtain ⟨Ao10, co10, eo10⟩ := Kd.S_slice HO250.out; subst eo10; have p251 : 0 ≤ (0 : Int) := (by omega); have q251 : 0 < (t248.length : Int) := of_decide_eq_true (by first | (with_reducible assumption) | assumption); obtain ⟨ad251, A251_3, c251_3, A251_4, c251_4, A251_5, c251_5, e251, hx251_0, hx251_1, hx251_2, hx251_3, hx251_4, hx251_5, hl251_3, hi251_3, hl251_4, hi251_4, hl251_5, hi251_5⟩ := at_T26 (Kd.S_reads' HO250.out).2.2 0 p251 q251; cases e251; obtain ⟨ce251, hce251, hMe251, hcc251⟩ := Kd.S_get HO250.out z26 0 p251 (by first | exact q251 | exact of_decide_eq_true (by first | (with_reducible assumption) | assumption) | (have e_ := (Kd.S_reads' HO250.out).1; omega)); obtain ⟨ve251_3, ve251_4, ve251_5, rfl, ge251_3, ge251_4, ge251_5⟩ := k26_openM hMe251; have hv251_3 := hcc251 3 _ rfl; rw [add_field _ _ 3 (by omega)] at hv251_3; replace hv251_3 := Option.some.inj (hv251_3.symm.trans hx251_3); rw [hv251_3] at ge251_3; have HL251_3 := Aside0.mk (show Kd.R k31 31 _ _ _ _ ((rd_T26 t248 0).f3) from ge251_3); clear hv251_3 ge251_3; have hv251_4 := hcc251 4 _ rfl; rw [add_field _ _ 4 (by omega)] at hv251_4; replace hv251_4 := Option.some.inj (hv251_4.symm.trans hx251_4); rw [hv251_4] at ge251_4; have HL251_4 := Aside0.mk (show Kd.R k86 86 _ _ _ _ ((rd_T26 t248 0).f4) from ge251_4); clear hv251_4 ge251_4; have hv251_5 := hcc251 5 _ rfl; rw [add_field _ _ 5 (by omega)] at hv251_5; replace hv251_5 := Option.some.inj (hv251_5.symm.trans hx251_5); rw [hv251_5] at ge251_5; have HL251_5 := Aside0.mk (show Kd.R k76 76 _ _ _ _ ((rd_T26 t248 0).f5) from ge251_5); clear hv251_5 ge251_5; clear hcc251 hce251; have qi251 : (0 < t248.length) = True := eq_true (by omega); (try rw [show ((0 : Int)).toNat = 0 from rfl] at hx251_0); (try rw [show 0 * 6 = 0 from rfl] at hx251_0); (try rw [Addr.add_zero'] at hx251_0); (try rw [show ((0 : Int)).toNat = 0 from rfl] at hx251_1); (try rw [show 0 * 6 = 0 from rfl] at hx251_1); (try rw [Addr.add_zero'] at hx251_1); (try rw [show ((0 : Int)).toNat = 0 from rfl] at hx251_2); (try rw [show 0 * 6 = 0 from rfl] at hx251_2); (try rw [Addr.add_zero'] at hx251_2); (try rw [show ((0 : Int)).toNat = 0 from rfl] at hx251_3); (try rw [show 0 * 6 = 0 from rfl] at hx251_3); (try rw [Addr.add_zero'] at hx251_3); (try rw [show ((0 : Int)).toNat = 0 from rfl] at hx251_4); (try rw [show 0 * 6 = 0 from rfl] at hx251_4); (try rw [Addr.add_zero'] at hx251_4); (try rw [show ((0 : Int)).toNat = 0 from rfl] at hx251_5); (try rw [show 0 * 6 = 0 from rfl] at hx251_5); (try rw [Addr.add_zero'] at hx251_5); have HR251_3 := Aside0.mk hi251_3; have HC251_3 := Aside0.mk hl251_3; clear hi251_3 hl251_3; have HR251_4 := Aside0.mk hi251_4; have HC251_4 := Aside0.mk hl251_4; clear hi251_4 hl251_4; have HR251_5 := Aside0.mk hi251_5; have HC251_5 := Aside0.mk hl251_5; clear hi251_5 hl251_5; replace p251 := eq_true p251; replace q251 := eq_true q251) | ((with_reducible refine gate_callee (f := 11) rfl ?_); refine goesL_ (some 12) rfl rfl Tryz.func11 (by kernel_rfl) rfl #[.agg #[.string ((rd_T26 t248 0).f0), .bool ((rd_T26 t248 0).f1), .int .i64 ((rd_T26 t248 0).f2), .slice A251_3 ((rd_T26 t248 0).f3).length c251_3, .slice A251_4 ((rd_T26 t248 0).f4).length c251_4, .slice A251_5 ((rd_T26 t248 0).f5).length c251_5], .string (⟨#[109]⟩ : ByteArray), .int .i64 10] rfl (by (try simp only [List.map_toArray, List.map_cons, List.map_nil]); first | done | rfl | (simp only [List.length_drop, List.length_take]; rfl)) ?_; (with_reducible refine (font_Width.calls ((rd_T26 t248 0).f0) ((rd_T26 t248 0).f1) ((rd_T26 t248 0).f2) _ _ ((rd_T26 t248 0).f3) _ _ ((rd_T26 t248 0).f4) _ _ ((rd_T26 t248 0).f5) (⟨#[109]⟩ : ByteArray) 10 t252 t253 _ ?side1 ?side2 ?side3 ?side4 ?side5 ?side6 ?side7 A4.out).mono ?_); (case side1 => repeat (first | exact (by repeat (first | (with_reducible exact HR251_3.out) | (with_reducible refine Kd.C_alloc ?_ _) | (with_reducible refine Kd.C_drewN ?_ _) | (with_reducible refine Kd.C_drew ?_) | exact HR251_3.out)) | (with_reducible refine Kd.C_alloc ?_ _) | (with_reducible refine Kd.C_drewN ?_ _) | (with_reducible refine Kd.C_drew ?_))); (case side2 => exact HC251_3.out); (case side3 => repeat (first | exact (by repeat (first | (with_reducible exact HR251_4.out) | (with_reducible refine Kd.C_alloc ?_ _) | (with_reducible refine Kd.C_drewN ?_ _) | (with_reducible refine Kd.C_drew ?_) | exact HR251_4.out)) | (with_reducible refine Kd.C_alloc ?_ _) | (with_reducible refine Kd.C_drewN ?_ _) | (with_reducible refine Kd.C_drew ?_))); (case side4 => exact HC251_4.out); (case side5 => repeat (first | exact (by repeat (first | (with_reducible exact HR251_5.out) | (with_reducible refine Kd.C_alloc ?_ _) | (with_reducible refine Kd.C_drewN ?_ _) | (with_reducible refine Kd.C_drew ?_) | exact HR251_5.out)) | (with_reducible refine Kd.C_alloc ?_ _) | (with_reducible refine Kd.C_drewN ?_ _) | (with_reducible refine Kd.C_drew ?_))); (case side6 => exact HC251_5.out); (case side7 => exact GW.under HG.out (by repeat (first | (with_reducible first | exact HB.out | apply below_alloc | apply pw_below_drewN | apply below_drew1) | exact HB.out))); rintro e w11 ⟨rfl, hb⟩; refine ⟨_, rfl, ?_⟩; have n0_ := Aside0.mk (Kd.S_below (by (with_reducible repeat (first | apply Kd.S_alloc | apply Kd.S_drewN | apply Kd.S_drew)); exact HO250.out) hb); have n1_ := Aside0.mk (Kd.R_below (by (with_reducible repeat (first | apply Kd.R_alloc | apply Kd.R_drewN | apply Kd.R_drew)); exact HL251_3.out) hb); have n2_ := Aside0.mk (Kd.R_below (by (with_reducible repeat (first | apply Kd.R_alloc | apply Kd.R_drewN | apply Kd.R_drew)); exact HL251_4.out) hb); have n3_ := Aside0.mk (Kd.R_below (by (with_reducible repeat (first | apply Kd.R_alloc | apply Kd.R_drewN | apply Kd.R_drew)); exact HL251_5.out) hb); have n4_ := Aside0.mk (Kd.C_below (by repeat (first | (with_reducible exact HR251_3.out) | (with_reducible refine Kd.C_alloc ?_ _) | (with_reducible refine Kd.C_drewN ?_ _) | (with_reducible refine Kd.C_drew ?_) | exact HR251_3.out)) hb); have n5_ := Aside0.mk (Kd.C_below (by repeat (first | (with_reducible exact HR251_4.out) | (with_reducible refine Kd.C_alloc ?_ _) | (with_reducible refine Kd.C_drewN ?_ _) | (with_reducible refine Kd.C_drew ?_) | exact HR251_4.out)) hb); have n6_ := Aside0.mk (Kd.C_below (by repeat (first | (with_reducible exact HR251_5.out) | (with_reducible refine Kd.C_alloc ?_ _) | (with_reducible refine Kd.C_drewN ?_ _) | (with_reducible refine Kd.C_drew ?_) | exact HR251_5.out)) hb); have n7_ := Aside0.mk (below_step (by repeat (first | (with_reducible first | exact HB.out | apply below_alloc | apply pw_below_drewN | apply below_drew1) | exact HB.out)) hb); clear HO250; clear HL251_3; clear HL251_4; clear HL251_5; clear HR251_3; clear HR251_4; clear HR251_5; clear HB; have HO250 := n0_; have HL251_3 := n1_; have HL251_4 := n2_; have HL251_5 := n3_; have HR251_3 := n4_; have HR251_4 := n5_; have HR251_5 := n6_; have HB := n7_; clear n0_ n1_ n2_ n3_ n4_ n5_ n6_ n7_; (try clear hb); (try clear hb2); (try clear hk); (try clear hi)))
    go_ret
    exact ⟨by first | rfl | (simp [errW_none, errW_some] <;> rfl) | (simp [*, errW_none, errW_some] <;> rfl), by repeat (first | (with_reducible first | exact HB.out | apply below_alloc | apply pw_below_drewN | apply below_drew1) | exact HB.out)⟩
  ·rw [if_neg c3] at H
   exact absurd H (by simp)
 ·rw [if_neg c2] at H
  have c2b0 : ((t248.length : Int) == 5) = false := beq_eq_false_iff_ne.mpr c2
  have c2b1 : ((t248.length : Int) != 5) = true := bne_iff_ne.mpr c2
  obtain rfl := Option.some.inj H
  go_enter Tryz.func12, Tryz.ntmps12
  go_wp2_with (first | ((with_reducible refine gate_callee (f := 13) rfl ?_); refine goesL_ (some 4) rfl rfl Tryz.func13 (by kernel_rfl) rfl #[] rfl (by (try simp only [List.map_toArray, List.map_cons, List.map_nil]); first | done | rfl | (simp only [List.length_drop, List.length_take]; rfl)) ?_; (with_reducible refine (font_Standard.calls  t248 _ ?side1 A1.out).mono ?_); (case side1 => exact GW.under HG.out (by repeat (first | (with_reducible first | exact HB.out | apply below_alloc | apply pw_below_drewN | apply below_drew1) | exact HB.out))); rintro e w12 ⟨v249, rfl, ho0, hb⟩; refine ⟨_, rfl, ?_⟩; have n0_ := Aside0.mk (Kd.S_lower ho0 (below_size (by repeat (first | (with_reducible first | exact HB.out | apply below_alloc | apply pw_below_drewN | apply below_drew1) | exact HB.out)))); have n1_ := Aside0.mk (below_step (by repeat (first | (with_reducible first | exact HB.out | apply below_alloc | apply pw_below_drewN | apply below_drew1) | exact HB.out)) hb); clear HB; have HO250 := n0_; have HB := n1_; clear n0_ n1_; (try clear hb); (try clear hb2); (try clear hk); (try clear hi); (try clear ho0); obtain ⟨Ao13, co13, eo13⟩ := Kd.S_slice HO250.out; subst eo13))
  go_ret
  exact ⟨by first | rfl | (simp [errW_none, errW_some] <;> rfl) | (simp [*, errW_none, errW_some] <;> rfl), by repeat (first | (with_reducible first | exact HB.out | apply below_alloc | apply pw_below_drewN | apply below_drew1) | exact HB.out)⟩
end Go.Proofs.YtaifemkokfoadaaGreatDoor.PX

namespace Go.Proofs.YtaifemkokfoadaaGreatDoor.PX
open Go.RowKit Go.Proofs.YtaifemkokfoadaaGreatDoorW.PrintWords Go.Proofs.YtaifemkokfoadaaGreatDoorW.PrintLast Go.Proofs.YtaifemkokfoadaaGreatDoorW.PrintMore
attribute [local go_sem] max2_int min2_int max_two min_two max_three min_three max_four min_four   -- for this text's walks alone
set_option linter.unusedVariables false
set_option linter.unusedSimpArgs false
theorem eqA81 (d : Nat) (w : World) (x0 y0 : ByteArray) (x1 y1 : Int) :
    (Op.equalIn (d + 2) 81 (.agg #[.string x0, .int .i64 x1]) (.agg #[.string y0, .int .i64 y1])).run Tryz.prog w = .ok (x0.toList == y0.toList && (x1 == y1)) w := by
  refine eqA_of Tryz.underlying81 (by kernel_rfl) ?_
  refine eqf_cons (by rfl) (by go_simp; rfl) (by go_simp; rfl) (by go_simp) ?_
  exact eqf_last (by rfl) (by go_simp; rfl) (by go_simp; rfl) (by go_simp)
end Go.Proofs.YtaifemkokfoadaaGreatDoor.PX

namespace Go.Proofs.YtaifemkokfoadaaGreatDoor.PX
open Go.RowKit Go.Proofs.YtaifemkokfoadaaGreatDoorW.PrintWords Go.Proofs.YtaifemkokfoadaaGreatDoorW.PrintLast Go.Proofs.YtaifemkokfoadaaGreatDoorW.PrintMore
attribute [local go_sem] max2_int min2_int max_two min_two max_three min_three max_four min_four   -- for this text's walks alone
set_option linter.unusedVariables false
set_option linter.unusedSimpArgs false
theorem eqA83 (d : Nat) (w : World) (x0 y0 : ByteArray) (x1 y1 : ByteArray) (x2 y2 : ByteArray) :
    (Op.equalIn (d + 2) 83 (.agg #[.string x0, .string x1, .string x2]) (.agg #[.string y0, .string y1, .string y2])).run Tryz.prog w = .ok (x0.toList == y0.toList && (x1.toList == y1.toList && (x2.toList == y2.toList))) w := by
  refine eqA_of Tryz.underlying83 (by kernel_rfl) ?_
  refine eqf_cons (by rfl) (by go_simp; rfl) (by go_simp; rfl) (by go_simp) ?_
  refine eqf_cons (by rfl) (by go_simp; rfl) (by go_simp; rfl) (by go_simp) ?_
  exact eqf_last (by rfl) (by go_simp; rfl) (by go_simp; rfl) (by go_simp)
end Go.Proofs.YtaifemkokfoadaaGreatDoor.PX

namespace Go.Proofs.YtaifemkokfoadaaGreatDoor.PX
open Go.RowKit Go.Proofs.YtaifemkokfoadaaGreatDoorW.PrintWords Go.Proofs.YtaifemkokfoadaaGreatDoorW.PrintLast Go.Proofs.YtaifemkokfoadaaGreatDoorW.PrintMore
attribute [local go_sem] max2_int min2_int max_two min_two max_three min_three max_four min_four   -- for this text's walks alone
set_option linter.unusedVariables false
set_option linter.unusedSimpArgs false
theorem eqA84 (d : Nat) (w : World) (x0 y0 : ByteArray) (x1 y1 : ByteArray) (x2 y2 : Int) :
    (Op.equalIn (d + 2) 84 (.agg #[.string x0, .string x1, .int .i64 x2]) (.agg #[.string y0, .string y1, .int .i64 y2])).run Tryz.prog w = .ok (x0.toList == y0.toList && (x1.toList == y1.toList && (x2 == y2))) w := by
  refine eqA_of Tryz.underlying84 (by kernel_rfl) ?_
  refine eqf_cons (by rfl) (by go_simp; rfl) (by go_simp; rfl) (by go_simp) ?_
  refine eqf_cons (by rfl) (by go_simp; rfl) (by go_simp; rfl) (by go_simp) ?_
  exact eqf_last (by rfl) (by go_simp; rfl) (by go_simp; rfl) (by go_simp)
end Go.Proofs.YtaifemkokfoadaaGreatDoor.PX

namespace Go.Proofs.YtaifemkokfoadaaGreatDoor.PX
open Go.RowKit Go.Proofs.YtaifemkokfoadaaGreatDoorW.PrintWords Go.Proofs.YtaifemkokfoadaaGreatDoorW.PrintLast Go.Proofs.YtaifemkokfoadaaGreatDoorW.PrintMore
attribute [local go_sem] max2_int min2_int max_two min_two max_three min_three max_four min_four   -- for this text's walks alone
set_option linter.unusedVariables false
set_option linter.unusedSimpArgs false
attribute [local go_sem high] eqA81 eqA83 eqA84
mutual
def frisketref07_Same.j0 : Nat → Bool → ByteArray → Bool → Int → List (S81) → List (S83) → List (S84) → ByteArray → Bool → Int → List (S81) → List (S83) → List (S84) → Option (Bool)
 | 0, _, _, _, _, _, _, _, _, _, _, _, _, _ => none
 | k + 1, x53, x268000, x268001, x268002, x268003, x268004, x268005, x269000, x269001, x269002, x269003, x269004, x269005 => if x53 = true then (some false) else (frisketref07_Same.l0 k 0 x268000 x268001 x268002 x268003 x268004 x268005 x269000 x269001 x269002 x269003 x269004 x269005)
def frisketref07_Same.l0 : Nat → Int → ByteArray → Bool → Int → List (S81) → List (S83) → List (S84) → ByteArray → Bool → Int → List (S81) → List (S83) → List (S84) → Option (Bool)
 | 0, _, _, _, _, _, _, _, _, _, _, _, _, _ => none
 | k + 1, x5, x268000, x268001, x268002, x268003, x268004, x268005, x269000, x269001, x269002, x269003, x269004, x269005 => if x5 < (x268003.length : Int) then (if 0 ≤ x5 then (if x5 < (x269003.length : Int) then (if (!((((rd_T81 x268003 x5).f0).toList) == (((rd_T81 x269003 x5).f0).toList)) || (!(((rd_T81 x268003 x5).f1) == ((rd_T81 x269003 x5).f1)))) = true then (some false) else (frisketref07_Same.l0 k (wrap64 (x5 + 1)) x268000 x268001 x268002 x268003 x268004 x268005 x269000 x269001 x269002 x269003 x269004 x269005)) else (none)) else (none)) else (frisketref07_Same.l1 k 0 x268000 x268001 x268002 x268003 x268004 x268005 x269000 x269001 x269002 x269003 x269004 x269005)
def frisketref07_Same.l1 : Nat → Int → ByteArray → Bool → Int → List (S81) → List (S83) → List (S84) → ByteArray → Bool → Int → List (S81) → List (S83) → List (S84) → Option (Bool)
 | 0, _, _, _, _, _, _, _, _, _, _, _, _, _ => none
 | k + 1, x6, x268000, x268001, x268002, x268003, x268004, x268005, x269000, x269001, x269002, x269003, x269004, x269005 => if x6 < (x268004.length : Int) then (if 0 ≤ x6 then (if x6 < (x269004.length : Int) then (if (!((((rd_T83 x268004 x6).f0).toList) == (((rd_T83 x269004 x6).f0).toList)) || (!((((rd_T83 x268004 x6).f1).toList) == (((rd_T83 x269004 x6).f1).toList)) || (!((((rd_T83 x268004 x6).f2).toList) == (((rd_T83 x269004 x6).f2).toList))))) = true then (some false) else (frisketref07_Same.l1 k (wrap64 (x6 + 1)) x268000 x268001 x268002 x268003 x268004 x268005 x269000 x269001 x269002 x269003 x269004 x269005)) else (none)) else (none)) else (frisketref07_Same.l2 k 0 x268000 x268001 x268002 x268003 x268004 x268005 x269000 x269001 x269002 x269003 x269004 x269005)
def frisketref07_Same.l2 : Nat → Int → ByteArray → Bool → Int → List (S81) → List (S83) → List (S84) → ByteArray → Bool → Int → List (S81) → List (S83) → List (S84) → Option (Bool)
 | 0, _, _, _, _, _, _, _, _, _, _, _, _, _ => none
 | k + 1, x7, x268000, x268001, x268002, x268003, x268004, x268005, x269000, x269001, x269002, x269003, x269004, x269005 => if x7 < (x268005.length : Int) then (if 0 ≤ x7 then (if x7 < (x269005.length : Int) then (if (!((((rd_T84 x268005 x7).f0).toList) == (((rd_T84 x269005 x7).f0).toList)) || (!((((rd_T84 x268005 x7).f1).toList) == (((rd_T84 x269005 x7).f1).toList)) || (!(((rd_T84 x268005 x7).f2) == ((rd_T84 x269005 x7).f2))))) = true then (some false) else (frisketref07_Same.l2 k (wrap64 (x7 + 1)) x268000 x268001 x268002 x268003 x268004 x268005 x269000 x269001 x269002 x269003 x269004 x269005)) else (none)) else (none)) else (some true)
end
def frisketref07_Same.f (k : Nat) (a0_0 : ByteArray) (a0_1 : Bool) (a0_2 : Int) (l0_3 : List (S81)) (l0_4 : List (S83)) (l0_5 : List (S84)) (a1_0 : ByteArray) (a1_1 : Bool) (a1_2 : Int) (l1_3 : List (S81)) (l1_4 : List (S83)) (l1_5 : List (S84)) : Option (Bool) := if a0_0.toList = a1_0.toList then (if (a0_1 != a1_1) = true then (frisketref07_Same.j0 k true a0_0 a0_1 a0_2 l0_3 l0_4 l0_5 a1_0 a1_1 a1_2 l1_3 l1_4 l1_5) else (if a0_2 = a1_2 then (if (l0_3.length : Int) = (l1_3.length : Int) then (if (l0_4.length : Int) = (l1_4.length : Int) then (frisketref07_Same.j0 k ((l0_5.length : Int) != (l1_5.length : Int)) a0_0 a0_1 a0_2 l0_3 l0_4 l0_5 a1_0 a1_1 a1_2 l1_3 l1_4 l1_5) else (frisketref07_Same.j0 k true a0_0 a0_1 a0_2 l0_3 l0_4 l0_5 a1_0 a1_1 a1_2 l1_3 l1_4 l1_5)) else (frisketref07_Same.j0 k true a0_0 a0_1 a0_2 l0_3 l0_4 l0_5 a1_0 a1_1 a1_2 l1_3 l1_4 l1_5)) else (frisketref07_Same.j0 k true a0_0 a0_1 a0_2 l0_3 l0_4 l0_5 a1_0 a1_1 a1_2 l1_3 l1_4 l1_5))) else (frisketref07_Same.j0 k true a0_0 a0_1 a0_2 l0_3 l0_4 l0_5 a1_0 a1_1 a1_2 l1_3 l1_4 l1_5)
set_option maxHeartbeats 8000000 in
set_option maxRecDepth 100000 in
theorem frisketref07_Same.calls (k : Nat) (a0_0 : ByteArray) (a0_1 : Bool) (a0_2 : Int) (A0_3 : Option Addr) (c0_3 : Nat) (l0_3 : List (S81)) (A0_4 : Option Addr) (c0_4 : Nat) (l0_4 : List (S83)) (A0_5 : Option Addr) (c0_5 : Nat) (l0_5 : List (S84)) (a1_0 : ByteArray) (a1_1 : Bool) (a1_2 : Int) (A1_3 : Option Addr) (c1_3 : Nat) (l1_3 : List (S81)) (A1_4 : Option Addr) (c1_4 : Nat) (l1_4 : List (S83)) (A1_5 : Option Addr) (c1_5 : Nat) (l1_5 : List (S84)) (r : Bool) (w : World) (hr0_3 : Kd.C k81 w A0_3 l0_3.length l0_3) (hc0_3 : l0_3.length ≤ c0_3) (hr0_4 : Kd.C k83 w A0_4 l0_4.length l0_4) (hc0_4 : l0_4.length ≤ c0_4) (hr0_5 : Kd.C k84 w A0_5 l0_5.length l0_5) (hc0_5 : l0_5.length ≤ c0_5) (hr1_3 : Kd.C k81 w A1_3 l1_3.length l1_3) (hc1_3 : l1_3.length ≤ c1_3) (hr1_4 : Kd.C k83 w A1_4 l1_4.length l1_4) (hc1_4 : l1_4.length ≤ c1_4) (hr1_5 : Kd.C k84 w A1_5 l1_5.length l1_5) (hc1_5 : l1_5.length ≤ c1_5) (h : frisketref07_Same.f k a0_0 a0_1 a0_2 l0_3 l0_4 l0_5 a1_0 a1_1 a1_2 l1_3 l1_4 l1_5 = some r) :
  Calls Tryz.prog 15 #[.agg #[.string a0_0, .bool a0_1, .int .i64 a0_2, .slice A0_3 l0_3.length c0_3, .slice A0_4 l0_4.length c0_4, .slice A0_5 l0_5.length c0_5], .agg #[.string a1_0, .bool a1_1, .int .i64 a1_2, .slice A1_3 l1_3.length c1_3, .slice A1_4 l1_4.length c1_4, .slice A1_5 l1_5.length c1_5]] w fun e w' => e = .returned (.bool r) ∧ Below w.heap.size w w' := by
 have hu44 := Tryz.underlying44
 have hu81 := Tryz.underlying81
 have hu83 := Tryz.underlying83
 have hu84 := Tryz.underlying84
 have HR0_3 := Aside0.mk hr0_3
 have HC0_3 := Aside0.mk hc0_3
 clear hr0_3 hc0_3
 have HR0_4 := Aside0.mk hr0_4
 have HC0_4 := Aside0.mk hc0_4
 clear hr0_4 hc0_4
 have HR0_5 := Aside0.mk hr0_5
 have HC0_5 := Aside0.mk hc0_5
 clear hr0_5 hc0_5
 have HR1_3 := Aside0.mk hr1_3
 have HC1_3 := Aside0.mk hc1_3
 clear hr1_3 hc1_3
 have HR1_4 := Aside0.mk hr1_4
 have HC1_4 := Aside0.mk hc1_4
 clear hr1_4 hc1_4
 have HR1_5 := Aside0.mk hr1_5
 have HC1_5 := Aside0.mk hc1_5
 clear hr1_5 hc1_5
 have HB := Aside0.mk (Below.refl w.heap.size w)
 have H : (if a0_0.toList = a1_0.toList then (if (a0_1 != a1_1) = true then (frisketref07_Same.j0 k true a0_0 a0_1 a0_2 l0_3 l0_4 l0_5 a1_0 a1_1 a1_2 l1_3 l1_4 l1_5) else (if a0_2 = a1_2 then (if (l0_3.length : Int) = (l1_3.length : Int) then (if (l0_4.length : Int) = (l1_4.length : Int) then (frisketref07_Same.j0 k ((l0_5.length : Int) != (l1_5.length : Int)) a0_0 a0_1 a0_2 l0_3 l0_4 l0_5 a1_0 a1_1 a1_2 l1_3 l1_4 l1_5) else (frisketref07_Same.j0 k true a0_0 a0_1 a0_2 l0_3 l0_4 l0_5 a1_0 a1_1 a1_2 l1_3 l1_4 l1_5)) else (frisketref07_Same.j0 k true a0_0 a0_1 a0_2 l0_3 l0_4 l0_5 a1_0 a1_1 a1_2 l1_3 l1_4 l1_5)) else (frisketref07_Same.j0 k true a0_0 a0_1 a0_2 l0_3 l0_4 l0_5 a1_0 a1_1 a1_2 l1_3 l1_4 l1_5))) else (frisketref07_Same.j0 k true a0_0 a0_1 a0_2 l0_3 l0_4 l0_5 a1_0 a1_1 a1_2 l1_3 l1_4 l1_5)) = some r := h
 clear h
 have HC3 := Aside0.mk H
 clear H
 go_enter Tryz.func15, Tryz.ntmps15
 go_upto_region 1 with (first | ((with_reducible refine gate_dst (N := 2) rfl ?_); (try (refine gate_guard (by rfl) ?_; dsimp only)); refine box_event ?hg (N := 2) ?hd (cs := #[.string a0_0, .bool a0_1, .int .i64 a0_2, .slice A0_3 l0_3.length c0_3, .slice A0_4 l0_4.length c0_4, .slice A0_5 l0_5.length c0_5]) (t := 44) ?hr ?_; (case hd => rfl); (case hg => rfl); (case hr => first | (go_simp; done) | (go_simp; rfl)); intro gb267 hg w4 hbox hb; have n0_ := Aside0.mk (below_step (by repeat (first | (with_reducible first | exact HB.out | apply below_alloc | apply pw_below_drewN | apply below_drew1) | exact HB.out)) hb); have n1_ := Aside0.mk (hbox); have n2_ := Aside0.mk ((by rw [hg]; exact (below_size (by repeat (first | (with_reducible first | exact HB.out | apply below_alloc | apply pw_below_drewN | apply below_drew1) | exact HB.out))) : w.heap.size ≤ gb267)); have n3_ := Aside0.mk ((by rw [hg]; exact (below_size (by repeat (first | (with_reducible first | exact HB.out | apply below_alloc | apply pw_below_drewN | apply below_drew1) | exact HB.out))) : w.heap.size ≤ gb267)); clear HB; have HB := n0_; have BK267 := n1_; have GW267 := n2_; have GE267 := n3_; clear n0_ n1_ n2_ n3_; clear hb hbox hg) | ((with_reducible refine gate_dst (N := 3) rfl ?_); (try (refine gate_guard (by rfl) ?_; dsimp only)); refine box_event ?hg (N := 3) ?hd (cs := #[.string a1_0, .bool a1_1, .int .i64 a1_2, .slice A1_3 l1_3.length c1_3, .slice A1_4 l1_4.length c1_4, .slice A1_5 l1_5.length c1_5]) (t := 44) ?hr ?_; (case hd => rfl); (case hg => rfl); (case hr => first | (go_simp; done) | (go_simp; rfl)); intro gb268 hg w5 hbox hb; have n0_ := Aside0.mk (blk_below (g := gb267) (o := .cells #[.string a0_0, .bool a0_1, .int .i64 a0_2, .slice A0_3 l0_3.length c0_3, .slice A0_4 l0_4.length c0_4, .slice A0_5 l0_5.length c0_5] 44 (0, 0)) (by (with_reducible repeat (first | refine blk_drewN ?_ _ | refine blk_drew ?_ | refine blk_alloc ?_ _)); exact BK267.out) hb); have n1_ := Aside0.mk (below_step (by repeat (first | (with_reducible first | exact HB.out | apply below_alloc | apply pw_below_drewN | apply below_drew1 | refine below_set ?_ GE267.out) | exact HB.out)) hb); have n2_ := Aside0.mk (hbox); have n3_ := Aside0.mk ((by rw [hg]; exact (below_size (by repeat (first | (with_reducible first | exact HB.out | apply below_alloc | apply pw_below_drewN | apply below_drew1 | refine below_set ?_ GE267.out) | exact HB.out))) : w.heap.size ≤ gb268)); have n4_ := Aside0.mk ((by rw [hg]; exact (below_size (by repeat (first | (with_reducible first | exact HB.out | apply below_alloc | apply pw_below_drewN | apply below_drew1 | refine below_set ?_ GE267.out) | exact HB.out))) : w.heap.size ≤ gb268)); have n5_ := Aside0.mk ((by rw [hg]; exact Nat.ne_of_lt (blk_lt (g := gb267) (o := .cells #[.string a0_0, .bool a0_1, .int .i64 a0_2, .slice A0_3 l0_3.length c0_3, .slice A0_4 l0_4.length c0_4, .slice A0_5 l0_5.length c0_5] 44 (0, 0)) (by (with_reducible repeat (first | refine blk_drewN ?_ _ | refine blk_drew ?_ | refine blk_alloc ?_ _)); exact BK267.out)) : gb267 ≠ gb268)); have n6_ := Aside0.mk ((by rw [hg]; exact Nat.ne_of_gt (blk_lt (g := gb267) (o := .cells #[.string a0_0, .bool a0_1, .int .i64 a0_2, .slice A0_3 l0_3.length c0_3, .slice A0_4 l0_4.length c0_4, .slice A0_5 l0_5.length c0_5] 44 (0, 0)) (by (with_reducible repeat (first | refine blk_drewN ?_ _ | refine blk_drew ?_ | refine blk_alloc ?_ _)); exact BK267.out)) : gb268 ≠ gb267)); clear BK267; clear HB; have BK267 := n0_; have HB := n1_; have BK268 := n2_; have GW268 := n3_; have GE268 := n4_; have NB267_268 := n5_; have NB268_267 := n6_; clear n0_ n1_ n2_ n3_ n4_ n5_ n6_; clear hb hbox hg))
 repeat (go_quiet (first | ((with_reducible refine gate_dst (N := 2) rfl ?_); (try (refine gate_guard (by rfl) ?_; dsimp only)); refine box_event ?hg (N := 2) ?hd (cs := #[.string a0_0, .bool a0_1, .int .i64 a0_2, .slice A0_3 l0_3.length c0_3, .slice A0_4 l0_4.length c0_4, .slice A0_5 l0_5.length c0_5]) (t := 44) ?hr ?_; (case hd => rfl); (case hg => rfl); (case hr => first | (go_simp; done) | (go_simp; rfl)); intro gb267 hg w4 hbox hb; have n0_ := Aside0.mk (below_step (by repeat (first | (with_reducible first | exact HB.out | apply below_alloc | apply pw_below_drewN | apply below_drew1) | exact HB.out)) hb); have n1_ := Aside0.mk (hbox); have n2_ := Aside0.mk ((by rw [hg]; exact (below_size (by repeat (first | (with_reducible first | exact HB.out | apply below_alloc | apply pw_below_drewN | apply below_drew1) | exact HB.out))) : w.heap.size ≤ gb267)); have n3_ := Aside0.mk ((by rw [hg]; exact (below_size (by repeat (first | (with_reducible first | exact HB.out | apply below_alloc | apply pw_below_drewN | apply below_drew1) | exact HB.out))) : w.heap.size ≤ gb267)); clear HB; have HB := n0_; have BK267 := n1_; have GW267 := n2_; have GE267 := n3_; clear n0_ n1_ n2_ n3_; clear hb hbox hg) | ((with_reducible refine gate_dst (N := 3) rfl ?_); (try (refine gate_guard (by rfl) ?_; dsimp only)); refine box_event ?hg (N := 3) ?hd (cs := #[.string a1_0, .bool a1_1, .int .i64 a1_2, .slice A1_3 l1_3.length c1_3, .slice A1_4 l1_4.length c1_4, .slice A1_5 l1_5.length c1_5]) (t := 44) ?hr ?_; (case hd => rfl); (case hg => rfl); (case hr => first | (go_simp; done) | (go_simp; rfl)); intro gb268 hg w5 hbox hb; have n0_ := Aside0.mk (blk_below (g := gb267) (o := .cells #[.string a0_0, .bool a0_1, .int .i64 a0_2, .slice A0_3 l0_3.length c0_3, .slice A0_4 l0_4.length c0_4, .slice A0_5 l0_5.length c0_5] 44 (0, 0)) (by (with_reducible repeat (first | refine blk_drewN ?_ _ | refine blk_drew ?_ | refine blk_alloc ?_ _)); exact BK267.out) hb); have n1_ := Aside0.mk (below_step (by repeat (first | (with_reducible first | exact HB.out | apply below_alloc | apply pw_below_drewN | apply below_drew1 | refine below_set ?_ GE267.out) | exact HB.out)) hb); have n2_ := Aside0.mk (hbox); have n3_ := Aside0.mk ((by rw [hg]; exact (below_size (by repeat (first | (with_reducible first | exact HB.out | apply below_alloc | apply pw_below_drewN | apply below_drew1 | refine below_set ?_ GE267.out) | exact HB.out))) : w.heap.size ≤ gb268)); have n4_ := Aside0.mk ((by rw [hg]; exact (below_size (by repeat (first | (with_reducible first | exact HB.out | apply below_alloc | apply pw_below_drewN | apply below_drew1 | refine below_set ?_ GE267.out) | exact HB.out))) : w.heap.size ≤ gb268)); have n5_ := Aside0.mk ((by rw [hg]; exact Nat.ne_of_lt (blk_lt (g := gb267) (o := .cells #[.string a0_0, .bool a0_1, .int .i64 a0_2, .slice A0_3 l0_3.length c0_3, .slice A0_4 l0_4.length c0_4, .slice A0_5 l0_5.length c0_5] 44 (0, 0)) (by (with_reducible repeat (first | refine blk_drewN ?_ _ | refine blk_drew ?_ | refine blk_alloc ?_ _)); exact BK267.out)) : gb267 ≠ gb268)); have n6_ := Aside0.mk ((by rw [hg]; exact Nat.ne_of_gt (blk_lt (g := gb267) (o := .cells #[.string a0_0, .bool a0_1, .int .i64 a0_2, .slice A0_3 l0_3.length c0_3, .slice A0_4 l0_4.length c0_4, .slice A0_5 l0_5.length c0_5] 44 (0, 0)) (by (with_reducible repeat (first | refine blk_drewN ?_ _ | refine blk_drew ?_ | refine blk_alloc ?_ _)); exact BK267.out)) : gb268 ≠ gb267)); clear BK267; clear HB; have BK267 := n0_; have HB := n1_; have BK268 := n2_; have GW268 := n3_; have GE268 := n4_; have NB267_268 := n5_; have NB268_267 := n6_; clear n0_ n1_ n2_ n3_ n4_ n5_ n6_; clear hb hbox hg)); go_upto_region 1 with (first | ((with_reducible refine gate_dst (N := 2) rfl ?_); (try (refine gate_guard (by rfl) ?_; dsimp only)); refine box_event ?hg (N := 2) ?hd (cs := #[.string a0_0, .bool a0_1, .int .i64 a0_2, .slice A0_3 l0_3.length c0_3, .slice A0_4 l0_4.length c0_4, .slice A0_5 l0_5.length c0_5]) (t := 44) ?hr ?_; (case hd => rfl); (case hg => rfl); (case hr => first | (go_simp; done) | (go_simp; rfl)); intro gb267 hg w4 hbox hb; have n0_ := Aside0.mk (below_step (by repeat (first | (with_reducible first | exact HB.out | apply below_alloc | apply pw_below_drewN | apply below_drew1) | exact HB.out)) hb); have n1_ := Aside0.mk (hbox); have n2_ := Aside0.mk ((by rw [hg]; exact (below_size (by repeat (first | (with_reducible first | exact HB.out | apply below_alloc | apply pw_below_drewN | apply below_drew1) | exact HB.out))) : w.heap.size ≤ gb267)); have n3_ := Aside0.mk ((by rw [hg]; exact (below_size (by repeat (first | (with_reducible first | exact HB.out | apply below_alloc | apply pw_below_drewN | apply below_drew1) | exact HB.out))) : w.heap.size ≤ gb267)); clear HB; have HB := n0_; have BK267 := n1_; have GW267 := n2_; have GE267 := n3_; clear n0_ n1_ n2_ n3_; clear hb hbox hg) | ((with_reducible refine gate_dst (N := 3) rfl ?_); (try (refine gate_guard (by rfl) ?_; dsimp only)); refine box_event ?hg (N := 3) ?hd (cs := #[.string a1_0, .bool a1_1, .int .i64 a1_2, .slice A1_3 l1_3.length c1_3, .slice A1_4 l1_4.length c1_4, .slice A1_5 l1_5.length c1_5]) (t := 44) ?hr ?_; (case hd => rfl); (case hg => rfl); (case hr => first | (go_simp; done) | (go_simp; rfl)); intro gb268 hg w5 hbox hb; have n0_ := Aside0.mk (blk_below (g := gb267) (o := .cells #[.string a0_0, .bool a0_1, .int .i64 a0_2, .slice A0_3 l0_3.length c0_3, .slice A0_4 l0_4.length c0_4, .slice A0_5 l0_5.length c0_5] 44 (0, 0)) (by (with_reducible repeat (first | refine blk_drewN ?_ _ | refine blk_drew ?_ | refine blk_alloc ?_ _)); exact BK267.out) hb); have n1_ := Aside0.mk (below_step (by repeat (first | (with_reducible first | exact HB.out | apply below_alloc | apply pw_below_drewN | apply below_drew1 | refine below_set ?_ GE267.out) | exact HB.out)) hb); have n2_ := Aside0.mk (hbox); have n3_ := Aside0.mk ((by rw [hg]; exact (below_size (by repeat (first | (with_reducible first | exact HB.out | apply below_alloc | apply pw_below_drewN | apply below_drew1 | refine below_set ?_ GE267.out) | exact HB.out))) : w.heap.size ≤ gb268)); have n4_ := Aside0.mk ((by rw [hg]; exact (below_size (by repeat (first | (with_reducible first | exact HB.out | apply below_alloc | apply pw_below_drewN | apply below_drew1 | refine below_set ?_ GE267.out) | exact HB.out))) : w.heap.size ≤ gb268)); have n5_ := Aside0.mk ((by rw [hg]; exact Nat.ne_of_lt (blk_lt (g := gb267) (o := .cells #[.string a0_0, .bool a0_1, .int .i64 a0_2, .slice A0_3 l0_3.length c0_3, .slice A0_4 l0_4.length c0_4, .slice A0_5 l0_5.length c0_5] 44 (0, 0)) (by (with_reducible repeat (first | refine blk_drewN ?_ _ | refine blk_drew ?_ | refine blk_alloc ?_ _)); exact BK267.out)) : gb267 ≠ gb268)); have n6_ := Aside0.mk ((by rw [hg]; exact Nat.ne_of_gt (blk_lt (g := gb267) (o := .cells #[.string a0_0, .bool a0_1, .int .i64 a0_2, .slice A0_3 l0_3.length c0_3, .slice A0_4 l0_4.length c0_4, .slice A0_5 l0_5.length c0_5] 44 (0, 0)) (by (with_reducible repeat (first | refine blk_drewN ?_ _ | refine blk_drew ?_ | refine blk_alloc ?_ _)); exact BK267.out)) : gb268 ≠ gb267)); clear BK267; clear HB; have BK267 := n0_; have HB := n1_; have BK268 := n2_; have GW268 := n3_; have GE268 := n4_; have NB267_268 := n5_; have NB268_267 := n6_; clear n0_ n1_ n2_ n3_ n4_ n5_ n6_; clear hb hbox hg)))
 (try simp only [Act.put, List.setIfInBounds_toArray, List.set_cons_zero, List.set_cons_succ])
 go_cut [53] (fun v53 wc => ∃ (kq : Nat) (x53_2 : Bool), v53 = .bool x53_2 ∧ Aside0 (frisketref07_Same.j0 kq x53_2 a0_0 a0_1 a0_2 l0_3 l0_4 l0_5 a1_0 a1_1 a1_2 l1_3 l1_4 l1_5 = some r) ∧ Aside0 (kq ≤ k) ∧ Aside0 (wc.heap[gb267]? = some (.cells #[.string a0_0, .bool a0_1, .int .i64 a0_2, (.slice A0_3 l0_3.length c0_3), (.slice A0_4 l0_4.length c0_4), (.slice A0_5 l0_5.length c0_5)] 44 (0, 0))) ∧ Aside0 (wc.heap[gb268]? = some (.cells #[.string a1_0, .bool a1_1, .int .i64 a1_2, (.slice A1_3 l1_3.length c1_3), (.slice A1_4 l1_4.length c1_4), (.slice A1_5 l1_5.length c1_5)] 44 (0, 0))) ∧ Aside0 (Below w.heap.size w wc))
 case first =>
  have H := HC3.out
  clear HC3
  by_cases c6 : a0_0.toList = a1_0.toList
  ·rw [if_pos c6] at H
   have c6b0 : (a0_0.toList == a1_0.toList) = true := beq_iff_eq.mpr c6
   have c6b1 : (a0_0.toList != a1_0.toList) = false := bne_eq_false_iff_eq.mpr c6
   clear c6
   (first | rw [c6b0] | (simp only [i64_w, i32_w]; rw [c6b0]) | skip)
   by_cases c7 : (a0_1 != a1_1) = true
   ·rw [if_pos c7] at H
    have c7b0 : (a0_1 != a1_1) = true := c7
    (try (have c7b1 : decide (a0_1 = a1_1) = false := by simpa using c7))
    (try (have c7b2 : (a0_1 == a1_1) = false := by simpa using c7))
    (try (have c7b3 : ¬ (a0_1 = a1_1) := by simpa using c7))
    clear c7
    have H' := Aside0.mk H
    clear H
    have hnb8 := NB267_268.out
    have hnc8 := NB268_267.out
    have hcz9_0 : w5.cell? ⟨gb267, 0, none⟩ = some (.string a0_0) := (blk_cell BK267.out 0).trans rfl
    have hcz9_1 : w5.cell? ⟨gb267, 1, none⟩ = some (.bool a0_1) := (blk_cell BK267.out 1).trans rfl
    have hcz9_2 : w5.cell? ⟨gb267, 2, none⟩ = some (.int .i64 a0_2) := (blk_cell BK267.out 2).trans rfl
    have hcz9_3 : w5.cell? ⟨gb267, 3, none⟩ = some (.slice A0_3 l0_3.length c0_3) := (blk_cell BK267.out 3).trans rfl
    have hcz9_4 : w5.cell? ⟨gb267, 4, none⟩ = some (.slice A0_4 l0_4.length c0_4) := (blk_cell BK267.out 4).trans rfl
    have hcz9_5 : w5.cell? ⟨gb267, 5, none⟩ = some (.slice A0_5 l0_5.length c0_5) := (blk_cell BK267.out 5).trans rfl
    have hfz9_0 := blk_frozen BK267.out 0
    have hfz9_1 := blk_frozen BK267.out 1
    have hfz9_2 := blk_frozen BK267.out 2
    have hfz9_3 := blk_frozen BK267.out 3
    have hfz9_4 := blk_frozen BK267.out 4
    have hfz9_5 := blk_frozen BK267.out 5
    have hcz10_0 : w5.cell? ⟨gb268, 0, none⟩ = some (.string a1_0) := (blk_cell BK268.out 0).trans rfl
    have hcz10_1 : w5.cell? ⟨gb268, 1, none⟩ = some (.bool a1_1) := (blk_cell BK268.out 1).trans rfl
    have hcz10_2 : w5.cell? ⟨gb268, 2, none⟩ = some (.int .i64 a1_2) := (blk_cell BK268.out 2).trans rfl
    have hcz10_3 : w5.cell? ⟨gb268, 3, none⟩ = some (.slice A1_3 l1_3.length c1_3) := (blk_cell BK268.out 3).trans rfl
    have hcz10_4 : w5.cell? ⟨gb268, 4, none⟩ = some (.slice A1_4 l1_4.length c1_4) := (blk_cell BK268.out 4).trans rfl
    have hcz10_5 : w5.cell? ⟨gb268, 5, none⟩ = some (.slice A1_5 l1_5.length c1_5) := (blk_cell BK268.out 5).trans rfl
    have hfz10_0 := blk_frozen BK268.out 0
    have hfz10_1 := blk_frozen BK268.out 1
    have hfz10_2 := blk_frozen BK268.out 2
    have hfz10_3 := blk_frozen BK268.out 3
    have hfz10_4 := blk_frozen BK268.out 4
    have hfz10_5 := blk_frozen BK268.out 5
    go_wp2
    repeat (go_quiet (fail); try go_wp2)
    go_meet
    case rel => exact ⟨_, (true), (by first | rfl | (simp; done) | (simp [*]; done)), H', ⟨by first | omega | exact Nat.le_refl _⟩, ⟨by (with_reducible repeat (first | refine blk_drewN ?_ _ | refine blk_drew ?_ | refine blk_alloc ?_ _)); exact BK267.out⟩, ⟨by (with_reducible repeat (first | refine blk_drewN ?_ _ | refine blk_drew ?_ | refine blk_alloc ?_ _)); exact BK268.out⟩, ⟨by repeat (first | (with_reducible first | exact HB.out | apply below_alloc | apply pw_below_drewN | apply below_drew1 | refine below_set ?_ GE267.out | refine below_set ?_ GE268.out) | exact HB.out)⟩⟩
   ·rw [if_neg c7] at H
    have c7b0 : (a0_1 != a1_1) = false := by simpa using c7
    (try (have c7b1 : decide (a0_1 = a1_1) = true := by simpa using c7))
    (try (have c7b2 : (a0_1 == a1_1) = true := by simpa using c7))
    clear c7
    by_cases c11 : a0_2 = a1_2
    ·rw [if_pos c11] at H
     have c11b0 : (a0_2 == a1_2) = true := beq_iff_eq.mpr c11
     have c11b1 : (a0_2 != a1_2) = false := bne_eq_false_iff_eq.mpr c11
     clear c11
     by_cases c12 : (l0_3.length : Int) = (l1_3.length : Int)
     ·rw [if_pos c12] at H
      have c12b0 : ((l0_3.length : Int) == (l1_3.length : Int)) = true := beq_iff_eq.mpr c12
      have c12b1 : ((l0_3.length : Int) != (l1_3.length : Int)) = false := bne_eq_false_iff_eq.mpr c12
      have c12b2 : (l0_3.length == l1_3.length) = true := by first | simpa using c12 | (simp at c12 ⊢; omega)
      clear c12
      by_cases c13 : (l0_4.length : Int) = (l1_4.length : Int)
      ·rw [if_pos c13] at H
       have c13b0 : ((l0_4.length : Int) == (l1_4.length : Int)) = true := beq_iff_eq.mpr c13
       have c13b1 : ((l0_4.length : Int) != (l1_4.length : Int)) = false := bne_eq_false_iff_eq.mpr c13
       have c13b2 : (l0_4.length == l1_4.length) = true := by first | simpa using c13 | (simp at c13 ⊢; omega)
       clear c13
       have H' := Aside0.mk H
       clear H
       have hnb14 := NB267_268.out
       have hnc14 := NB268_267.out
       have hcz15_0 : w5.cell? ⟨gb267, 0, none⟩ = some (.string a0_0) := (blk_cell BK267.out 0).trans rfl
       have hcz15_1 : w5.cell? ⟨gb267, 1, none⟩ = some (.bool a0_1) := (blk_cell BK267.out 1).trans rfl
       have hcz15_2 : w5.cell? ⟨gb267, 2, none⟩ = some (.int .i64 a0_2) := (blk_cell BK267.out 2).trans rfl
       have hcz15_3 : w5.cell? ⟨gb267, 3, none⟩ = some (.slice A0_3 l0_3.length c0_3) := (blk_cell BK267.out 3).trans rfl
       have hcz15_4 : w5.cell? ⟨gb267, 4, none⟩ = some (.slice A0_4 l0_4.length c0_4) := (blk_cell BK267.out 4).trans rfl
       have hcz15_5 : w5.cell? ⟨gb267, 5, none⟩ = some (.slice A0_5 l0_5.length c0_5) := (blk_cell BK267.out 5).trans rfl
       have hfz15_0 := blk_frozen BK267.out 0
       have hfz15_1 := blk_frozen BK267.out 1
       have hfz15_2 := blk_frozen BK267.out 2
       have hfz15_3 := blk_frozen BK267.out 3
       have hfz15_4 := blk_frozen BK267.out 4
       have hfz15_5 := blk_frozen BK267.out 5
       have hcz16_0 : w5.cell? ⟨gb268, 0, none⟩ = some (.string a1_0) := (blk_cell BK268.out 0).trans rfl
       have hcz16_1 : w5.cell? ⟨gb268, 1, none⟩ = some (.bool a1_1) := (blk_cell BK268.out 1).trans rfl
       have hcz16_2 : w5.cell? ⟨gb268, 2, none⟩ = some (.int .i64 a1_2) := (blk_cell BK268.out 2).trans rfl
       have hcz16_3 : w5.cell? ⟨gb268, 3, none⟩ = some (.slice A1_3 l1_3.length c1_3) := (blk_cell BK268.out 3).trans rfl
       have hcz16_4 : w5.cell? ⟨gb268, 4, none⟩ = some (.slice A1_4 l1_4.length c1_4) := (blk_cell BK268.out 4).trans rfl
       have hcz16_5 : w5.cell? ⟨gb268, 5, none⟩ = some (.slice A1_5 l1_5.length c1_5) := (blk_cell BK268.out 5).trans rfl
       have hfz16_0 := blk_frozen BK268.out 0
       have hfz16_1 := blk_frozen BK268.out 1
       have hfz16_2 := blk_frozen BK268.out 2
       have hfz16_3 := blk_frozen BK268.out 3
       have hfz16_4 := blk_frozen BK268.out 4
       have hfz16_5 := blk_frozen BK268.out 5
       go_wp2
       repeat (go_quiet (fail); try go_wp2)
       go_meet
       case rel => exact ⟨_, (((l0_5.length : Int) != (l1_5.length : Int))), (by first | rfl | (simp; done) | (simp [*]; done)), H', ⟨by first | omega | exact Nat.le_refl _⟩, ⟨by (with_reducible repeat (first | refine blk_drewN ?_ _ | refine blk_drew ?_ | refine blk_alloc ?_ _)); exact BK267.out⟩, ⟨by (with_reducible repeat (first | refine blk_drewN ?_ _ | refine blk_drew ?_ | refine blk_alloc ?_ _)); exact BK268.out⟩, ⟨by repeat (first | (with_reducible first | exact HB.out | apply below_alloc | apply pw_below_drewN | apply below_drew1 | refine below_set ?_ GE267.out | refine below_set ?_ GE268.out) | exact HB.out)⟩⟩
      ·rw [if_neg c13] at H
       have c13b0 : ((l0_4.length : Int) == (l1_4.length : Int)) = false := beq_eq_false_iff_ne.mpr c13
       have c13b1 : ((l0_4.length : Int) != (l1_4.length : Int)) = true := bne_iff_ne.mpr c13
       have c13b2 : (l0_4.length == l1_4.length) = false := by first | simpa using c13 | (simp at c13 ⊢; omega)
       have H' := Aside0.mk H
       clear H
       have hnb17 := NB267_268.out
       have hnc17 := NB268_267.out
       have hcz18_0 : w5.cell? ⟨gb267, 0, none⟩ = some (.string a0_0) := (blk_cell BK267.out 0).trans rfl
       have hcz18_1 : w5.cell? ⟨gb267, 1, none⟩ = some (.bool a0_1) := (blk_cell BK267.out 1).trans rfl
       have hcz18_2 : w5.cell? ⟨gb267, 2, none⟩ = some (.int .i64 a0_2) := (blk_cell BK267.out 2).trans rfl
       have hcz18_3 : w5.cell? ⟨gb267, 3, none⟩ = some (.slice A0_3 l0_3.length c0_3) := (blk_cell BK267.out 3).trans rfl
       have hcz18_4 : w5.cell? ⟨gb267, 4, none⟩ = some (.slice A0_4 l0_4.length c0_4) := (blk_cell BK267.out 4).trans rfl
       have hcz18_5 : w5.cell? ⟨gb267, 5, none⟩ = some (.slice A0_5 l0_5.length c0_5) := (blk_cell BK267.out 5).trans rfl
       have hfz18_0 := blk_frozen BK267.out 0
       have hfz18_1 := blk_frozen BK267.out 1
       have hfz18_2 := blk_frozen BK267.out 2
       have hfz18_3 := blk_frozen BK267.out 3
       have hfz18_4 := blk_frozen BK267.out 4
       have hfz18_5 := blk_frozen BK267.out 5
       have hcz19_0 : w5.cell? ⟨gb268, 0, none⟩ = some (.string a1_0) := (blk_cell BK268.out 0).trans rfl
       have hcz19_1 : w5.cell? ⟨gb268, 1, none⟩ = some (.bool a1_1) := (blk_cell BK268.out 1).trans rfl
       have hcz19_2 : w5.cell? ⟨gb268, 2, none⟩ = some (.int .i64 a1_2) := (blk_cell BK268.out 2).trans rfl
       have hcz19_3 : w5.cell? ⟨gb268, 3, none⟩ = some (.slice A1_3 l1_3.length c1_3) := (blk_cell BK268.out 3).trans rfl
       have hcz19_4 : w5.cell? ⟨gb268, 4, none⟩ = some (.slice A1_4 l1_4.length c1_4) := (blk_cell BK268.out 4).trans rfl
       have hcz19_5 : w5.cell? ⟨gb268, 5, none⟩ = some (.slice A1_5 l1_5.length c1_5) := (blk_cell BK268.out 5).trans rfl
       have hfz19_0 := blk_frozen BK268.out 0
       have hfz19_1 := blk_frozen BK268.out 1
       have hfz19_2 := blk_frozen BK268.out 2
       have hfz19_3 := blk_frozen BK268.out 3
       have hfz19_4 := blk_frozen BK268.out 4
       have hfz19_5 := blk_frozen BK268.out 5
       go_wp2
       repeat (go_quiet (fail); try go_wp2)
       go_meet
       case rel => exact ⟨_, (true), (by first | rfl | (simp; done) | (simp [*]; done)), H', ⟨by first | omega | exact Nat.le_refl _⟩, ⟨by (with_reducible repeat (first | refine blk_drewN ?_ _ | refine blk_drew ?_ | refine blk_alloc ?_ _)); exact BK267.out⟩, ⟨by (with_reducible repeat (first | refine blk_drewN ?_ _ | refine blk_drew ?_ | refine blk_alloc ?_ _)); exact BK268.out⟩, ⟨by repeat (first | (with_reducible first | exact HB.out | apply below_alloc | apply pw_below_drewN | apply below_drew1 | refine below_set ?_ GE267.out | refine below_set ?_ GE268.out) | exact HB.out)⟩⟩
     ·rw [if_neg c12] at H
      have c12b0 : ((l0_3.length : Int) == (l1_3.length : Int)) = false := beq_eq_false_iff_ne.mpr c12
      have c12b1 : ((l0_3.length : Int) != (l1_3.length : Int)) = true := bne_iff_ne.mpr c12
      have c12b2 : (l0_3.length == l1_3.length) = false := by first | simpa using c12 | (simp at c12 ⊢; omega)
      have H' := Aside0.mk H
      clear H
      have hnb20 := NB267_268.out
      have hnc20 := NB268_267.out
      have hcz21_0 : w5.cell? ⟨gb267, 0, none⟩ = some (.string a0_0) := (blk_cell BK267.out 0).trans rfl
      have hcz21_1 : w5.cell? ⟨gb267, 1, none⟩ = some (.bool a0_1) := (blk_cell BK267.out 1).trans rfl
      have hcz21_2 : w5.cell? ⟨gb267, 2, none⟩ = some (.int .i64 a0_2) := (blk_cell BK267.out 2).trans rfl
      have hcz21_3 : w5.cell? ⟨gb267, 3, none⟩ = some (.slice A0_3 l0_3.length c0_3) := (blk_cell BK267.out 3).trans rfl
      have hcz21_4 : w5.cell? ⟨gb267, 4, none⟩ = some (.slice A0_4 l0_4.length c0_4) := (blk_cell BK267.out 4).trans rfl
      have hcz21_5 : w5.cell? ⟨gb267, 5, none⟩ = some (.slice A0_5 l0_5.length c0_5) := (blk_cell BK267.out 5).trans rfl
      have hfz21_0 := blk_frozen BK267.out 0
      have hfz21_1 := blk_frozen BK267.out 1
      have hfz21_2 := blk_frozen BK267.out 2
      have hfz21_3 := blk_frozen BK267.out 3
      have hfz21_4 := blk_frozen BK267.out 4
      have hfz21_5 := blk_frozen BK267.out 5
      have hcz22_0 : w5.cell? ⟨gb268, 0, none⟩ = some (.string a1_0) := (blk_cell BK268.out 0).trans rfl
      have hcz22_1 : w5.cell? ⟨gb268, 1, none⟩ = some (.bool a1_1) := (blk_cell BK268.out 1).trans rfl
      have hcz22_2 : w5.cell? ⟨gb268, 2, none⟩ = some (.int .i64 a1_2) := (blk_cell BK268.out 2).trans rfl
      have hcz22_3 : w5.cell? ⟨gb268, 3, none⟩ = some (.slice A1_3 l1_3.length c1_3) := (blk_cell BK268.out 3).trans rfl
      have hcz22_4 : w5.cell? ⟨gb268, 4, none⟩ = some (.slice A1_4 l1_4.length c1_4) := (blk_cell BK268.out 4).trans rfl
      have hcz22_5 : w5.cell? ⟨gb268, 5, none⟩ = some (.slice A1_5 l1_5.length c1_5) := (blk_cell BK268.out 5).trans rfl
      have hfz22_0 := blk_frozen BK268.out 0
      have hfz22_1 := blk_frozen BK268.out 1
      have hfz22_2 := blk_frozen BK268.out 2
      have hfz22_3 := blk_frozen BK268.out 3
      have hfz22_4 := blk_frozen BK268.out 4
      have hfz22_5 := blk_frozen BK268.out 5
      go_wp2
      repeat (go_quiet (fail); try go_wp2)
      go_meet
      case rel => exact ⟨_, (true), (by first | rfl | (simp; done) | (simp [*]; done)), H', ⟨by first | omega | exact Nat.le_refl _⟩, ⟨by (with_reducible repeat (first | refine blk_drewN ?_ _ | refine blk_drew ?_ | refine blk_alloc ?_ _)); exact BK267.out⟩, ⟨by (with_reducible repeat (first | refine blk_drewN ?_ _ | refine blk_drew ?_ | refine blk_alloc ?_ _)); exact BK268.out⟩, ⟨by repeat (first | (with_reducible first | exact HB.out | apply below_alloc | apply pw_below_drewN | apply below_drew1 | refine below_set ?_ GE267.out | refine below_set ?_ GE268.out) | exact HB.out)⟩⟩
    ·rw [if_neg c11] at H
     have c11b0 : (a0_2 == a1_2) = false := beq_eq_false_iff_ne.mpr c11
     have c11b1 : (a0_2 != a1_2) = true := bne_iff_ne.mpr c11
     have H' := Aside0.mk H
     clear H
     have hnb23 := NB267_268.out
     have hnc23 := NB268_267.out
     have hcz24_0 : w5.cell? ⟨gb267, 0, none⟩ = some (.string a0_0) := (blk_cell BK267.out 0).trans rfl
     have hcz24_1 : w5.cell? ⟨gb267, 1, none⟩ = some (.bool a0_1) := (blk_cell BK267.out 1).trans rfl
     have hcz24_2 : w5.cell? ⟨gb267, 2, none⟩ = some (.int .i64 a0_2) := (blk_cell BK267.out 2).trans rfl
     have hcz24_3 : w5.cell? ⟨gb267, 3, none⟩ = some (.slice A0_3 l0_3.length c0_3) := (blk_cell BK267.out 3).trans rfl
     have hcz24_4 : w5.cell? ⟨gb267, 4, none⟩ = some (.slice A0_4 l0_4.length c0_4) := (blk_cell BK267.out 4).trans rfl
     have hcz24_5 : w5.cell? ⟨gb267, 5, none⟩ = some (.slice A0_5 l0_5.length c0_5) := (blk_cell BK267.out 5).trans rfl
     have hfz24_0 := blk_frozen BK267.out 0
     have hfz24_1 := blk_frozen BK267.out 1
     have hfz24_2 := blk_frozen BK267.out 2
     have hfz24_3 := blk_frozen BK267.out 3
     have hfz24_4 := blk_frozen BK267.out 4
     have hfz24_5 := blk_frozen BK267.out 5
     have hcz25_0 : w5.cell? ⟨gb268, 0, none⟩ = some (.string a1_0) := (blk_cell BK268.out 0).trans rfl
     have hcz25_1 : w5.cell? ⟨gb268, 1, none⟩ = some (.bool a1_1) := (blk_cell BK268.out 1).trans rfl
     have hcz25_2 : w5.cell? ⟨gb268, 2, none⟩ = some (.int .i64 a1_2) := (blk_cell BK268.out 2).trans rfl
     have hcz25_3 : w5.cell? ⟨gb268, 3, none⟩ = some (.slice A1_3 l1_3.length c1_3) := (blk_cell BK268.out 3).trans rfl
     have hcz25_4 : w5.cell? ⟨gb268, 4, none⟩ = some (.slice A1_4 l1_4.length c1_4) := (blk_cell BK268.out 4).trans rfl
     have hcz25_5 : w5.cell? ⟨gb268, 5, none⟩ = some (.slice A1_5 l1_5.length c1_5) := (blk_cell BK268.out 5).trans rfl
     have hfz25_0 := blk_frozen BK268.out 0
     have hfz25_1 := blk_frozen BK268.out 1
     have hfz25_2 := blk_frozen BK268.out 2
     have hfz25_3 := blk_frozen BK268.out 3
     have hfz25_4 := blk_frozen BK268.out 4
     have hfz25_5 := blk_frozen BK268.out 5
     go_wp2
     repeat (go_quiet (fail); try go_wp2)
     go_meet
     case rel => exact ⟨_, (true), (by first | rfl | (simp; done) | (simp [*]; done)), H', ⟨by first | omega | exact Nat.le_refl _⟩, ⟨by (with_reducible repeat (first | refine blk_drewN ?_ _ | refine blk_drew ?_ | refine blk_alloc ?_ _)); exact BK267.out⟩, ⟨by (with_reducible repeat (first | refine blk_drewN ?_ _ | refine blk_drew ?_ | refine blk_alloc ?_ _)); exact BK268.out⟩, ⟨by repeat (first | (with_reducible first | exact HB.out | apply below_alloc | apply pw_below_drewN | apply below_drew1 | refine below_set ?_ GE267.out | refine below_set ?_ GE268.out) | exact HB.out)⟩⟩
  ·rw [if_neg c6] at H
   have c6b0 : (a0_0.toList == a1_0.toList) = false := beq_eq_false_iff_ne.mpr c6
   have c6b1 : (a0_0.toList != a1_0.toList) = true := bne_iff_ne.mpr c6
   (first | rw [c6b0] | (simp only [i64_w, i32_w]; rw [c6b0]) | skip)
   have H' := Aside0.mk H
   clear H
   have hnb26 := NB267_268.out
   have hnc26 := NB268_267.out
   have hcz27_0 : w5.cell? ⟨gb267, 0, none⟩ = some (.string a0_0) := (blk_cell BK267.out 0).trans rfl
   have hcz27_1 : w5.cell? ⟨gb267, 1, none⟩ = some (.bool a0_1) := (blk_cell BK267.out 1).trans rfl
   have hcz27_2 : w5.cell? ⟨gb267, 2, none⟩ = some (.int .i64 a0_2) := (blk_cell BK267.out 2).trans rfl
   have hcz27_3 : w5.cell? ⟨gb267, 3, none⟩ = some (.slice A0_3 l0_3.length c0_3) := (blk_cell BK267.out 3).trans rfl
   have hcz27_4 : w5.cell? ⟨gb267, 4, none⟩ = some (.slice A0_4 l0_4.length c0_4) := (blk_cell BK267.out 4).trans rfl
   have hcz27_5 : w5.cell? ⟨gb267, 5, none⟩ = some (.slice A0_5 l0_5.length c0_5) := (blk_cell BK267.out 5).trans rfl
   have hfz27_0 := blk_frozen BK267.out 0
   have hfz27_1 := blk_frozen BK267.out 1
   have hfz27_2 := blk_frozen BK267.out 2
   have hfz27_3 := blk_frozen BK267.out 3
   have hfz27_4 := blk_frozen BK267.out 4
   have hfz27_5 := blk_frozen BK267.out 5
   have hcz28_0 : w5.cell? ⟨gb268, 0, none⟩ = some (.string a1_0) := (blk_cell BK268.out 0).trans rfl
   have hcz28_1 : w5.cell? ⟨gb268, 1, none⟩ = some (.bool a1_1) := (blk_cell BK268.out 1).trans rfl
   have hcz28_2 : w5.cell? ⟨gb268, 2, none⟩ = some (.int .i64 a1_2) := (blk_cell BK268.out 2).trans rfl
   have hcz28_3 : w5.cell? ⟨gb268, 3, none⟩ = some (.slice A1_3 l1_3.length c1_3) := (blk_cell BK268.out 3).trans rfl
   have hcz28_4 : w5.cell? ⟨gb268, 4, none⟩ = some (.slice A1_4 l1_4.length c1_4) := (blk_cell BK268.out 4).trans rfl
   have hcz28_5 : w5.cell? ⟨gb268, 5, none⟩ = some (.slice A1_5 l1_5.length c1_5) := (blk_cell BK268.out 5).trans rfl
   have hfz28_0 := blk_frozen BK268.out 0
   have hfz28_1 := blk_frozen BK268.out 1
   have hfz28_2 := blk_frozen BK268.out 2
   have hfz28_3 := blk_frozen BK268.out 3
   have hfz28_4 := blk_frozen BK268.out 4
   have hfz28_5 := blk_frozen BK268.out 5
   go_wp2
   repeat (go_quiet (fail); try go_wp2)
   go_meet
   case rel => exact ⟨_, (true), (by first | rfl | (simp; done) | (simp [*]; done)), H', ⟨by first | omega | exact Nat.le_refl _⟩, ⟨by (with_reducible repeat (first | refine blk_drewN ?_ _ | refine blk_drew ?_ | refine blk_alloc ?_ _)); exact BK267.out⟩, ⟨by (with_reducible repeat (first | refine blk_drewN ?_ _ | refine blk_drew ?_ | refine blk_alloc ?_ _)); exact BK268.out⟩, ⟨by repeat (first | (with_reducible first | exact HB.out | apply below_alloc | apply pw_below_drewN | apply below_drew1 | refine below_set ?_ GE267.out | refine below_set ?_ GE268.out) | exact HB.out)⟩⟩
 case rest =>
  clear HC3
  try clear c1
  try clear c2
  try clear p2
  try clear c6
  try clear c6b0
  try clear c6b1
  try clear c7
  try clear c7b0
  try clear c7b1
  try clear c7b2
  try clear c8
  try clear c11
  try clear c11b0
  try clear c11b1
  try clear c12
  try clear c12b0
  try clear c12b1
  try clear c12b2
  try clear c13
  try clear c13b0
  try clear c13b1
  try clear c13b2
  try clear c14
  try clear c15
  try clear c17
  try clear c20
  try clear c23
  try clear c26
  try clear hcz10_0
  try clear hcz10_1
  try clear hcz10_2
  try clear hcz10_3
  try clear hcz10_4
  try clear hcz10_5
  try clear hcz15_0
  try clear hcz15_1
  try clear hcz15_2
  try clear hcz15_3
  try clear hcz15_4
  try clear hcz15_5
  try clear hcz16_0
  try clear hcz16_1
  try clear hcz16_2
  try clear hcz16_3
  try clear hcz16_4
  try clear hcz16_5
  try clear hcz18_0
  try clear hcz18_1
  try clear hcz18_2
  try clear hcz18_3
  try clear hcz18_4
  try clear hcz18_5
  try clear hcz19_0
  try clear hcz19_1
  try clear hcz19_2
  try clear hcz19_3
  try clear hcz19_4
  try clear hcz19_5
  try clear hcz21_0
  try clear hcz21_1
  try clear hcz21_2
  try clear hcz21_3
  try clear hcz21_4
  try clear hcz21_5
  try clear hcz22_0
  try clear hcz22_1
  try clear hcz22_2
  try clear hcz22_3
  try clear hcz22_4
  try clear hcz22_5
  try clear hcz24_0
  try clear hcz24_1
  try clear hcz24_2
  try clear hcz24_3
  try clear hcz24_4
  try clear hcz24_5
  try clear hcz25_0
  try clear hcz25_1
  try clear hcz25_2
  try clear hcz25_3
  try clear hcz25_4
  try clear hcz25_5
  try clear hcz27_0
  try clear hcz27_1
  try clear hcz27_2
  try clear hcz27_3
  try clear hcz27_4
  try clear hcz27_5
  try clear hcz28_0
  try clear hcz28_1
  try clear hcz28_2
  try clear hcz28_3
  try clear hcz28_4
  try clear hcz28_5
  try clear hcz9_0
  try clear hcz9_1
  try clear hcz9_2
  try clear hcz9_3
  try clear hcz9_4
  try clear hcz9_5
  try clear hfz10_0
  try clear hfz10_1
  try clear hfz10_2
  try clear hfz10_3
  try clear hfz10_4
  try clear hfz10_5
  try clear hfz15_0
  try clear hfz15_1
  try clear hfz15_2
  try clear hfz15_3
  try clear hfz15_4
  try clear hfz15_5
  try clear hfz16_0
  try clear hfz16_1
  try clear hfz16_2
  try clear hfz16_3
  try clear hfz16_4
  try clear hfz16_5
  try clear hfz18_0
  try clear hfz18_1
  try clear hfz18_2
  try clear hfz18_3
  try clear hfz18_4
  try clear hfz18_5
  try clear hfz19_0
  try clear hfz19_1
  try clear hfz19_2
  try clear hfz19_3
  try clear hfz19_4
  try clear hfz19_5
  try clear hfz21_0
  try clear hfz21_1
  try clear hfz21_2
  try clear hfz21_3
  try clear hfz21_4
  try clear hfz21_5
  try clear hfz22_0
  try clear hfz22_1
  try clear hfz22_2
  try clear hfz22_3
  try clear hfz22_4
  try clear hfz22_5
  try clear hfz24_0
  try clear hfz24_1
  try clear hfz24_2
  try clear hfz24_3
  try clear hfz24_4
  try clear hfz24_5
  try clear hfz25_0
  try clear hfz25_1
  try clear hfz25_2
  try clear hfz25_3
  try clear hfz25_4
  try clear hfz25_5
  try clear hfz27_0
  try clear hfz27_1
  try clear hfz27_2
  try clear hfz27_3
  try clear hfz27_4
  try clear hfz27_5
  try clear hfz28_0
  try clear hfz28_1
  try clear hfz28_2
  try clear hfz28_3
  try clear hfz28_4
  try clear hfz28_5
  try clear hfz9_0
  try clear hfz9_1
  try clear hfz9_2
  try clear hfz9_3
  try clear hfz9_4
  try clear hfz9_5
  obtain ⟨kq, x53_2, rfl, HA, HJ2, BK267, BK268, HB⟩ := hcut
  cases kq with
  | zero => exact absurd HA.out (by simp [frisketref07_Same.j0])
  | succ kj2 =>
   have H := HA.out
   clear HA
   simp only [frisketref07_Same.j0] at H
   by_cases c29 : x53_2 = true
   ·subst c29
    have H1 : (some false) = some r := by rw [if_pos rfl] at H; exact H
    clear H
    have H := H1
    clear H1
    obtain rfl := Option.some.inj H
    go_wp2
    repeat (go_quiet (fail); try go_wp2)
    go_ret
    exact ⟨by first | rfl | (simp [errW_none, errW_some] <;> rfl) | (simp [*, errW_none, errW_some] <;> rfl), by repeat (first | (with_reducible first | exact HB.out | apply below_alloc | apply pw_below_drewN | apply below_drew1 | refine below_set ?_ GE267.out | refine below_set ?_ GE268.out) | exact HB.out)⟩
   ·replace c29 := Bool.eq_false_iff.mpr c29
    subst c29
    have H1 : (frisketref07_Same.l0 kj2 0 a0_0 a0_1 a0_2 l0_3 l0_4 l0_5 a1_0 a1_1 a1_2 l1_3 l1_4 l1_5) = some r := by rw [if_neg (show ¬ (false = true) by decide)] at H; exact H
    clear H
    have H := H1
    clear H1
    have H' := Aside0.mk H
    clear H
    go_wp2
    repeat (go_quiet (fail); try go_wp2)
    go_loopg [5] kj2 (fun kq v5 w' => ∃ (x5_2 : Int), v5 = .int .i64 x5_2 ∧ Aside0 (frisketref07_Same.l0 kq x5_2 a0_0 a0_1 a0_2 l0_3 l0_4 l0_5 a1_0 a1_1 a1_2 l1_3 l1_4 l1_5 = some r) ∧ Aside0 (kq ≤ kj2) ∧ Aside0 (w'.heap[gb267]? = some (.cells #[.string a0_0, .bool a0_1, .int .i64 a0_2, (.slice A0_3 l0_3.length c0_3), (.slice A0_4 l0_4.length c0_4), (.slice A0_5 l0_5.length c0_5)] 44 (0, 0))) ∧ Aside0 (w'.heap[gb268]? = some (.cells #[.string a1_0, .bool a1_1, .int .i64 a1_2, (.slice A1_3 l1_3.length c1_3), (.slice A1_4 l1_4.length c1_4), (.slice A1_5 l1_5.length c1_5)] 44 (0, 0))) ∧ Aside0 (Below w.heap.size w w'))
    case atStart => exact ⟨(0), (by first | rfl | (simp; done) | (simp [*]; done)), H', ⟨Nat.le_refl _⟩, ⟨by (with_reducible repeat (first | refine blk_drewN ?_ _ | refine blk_drew ?_ | refine blk_alloc ?_ _)); exact BK267.out⟩, ⟨by (with_reducible repeat (first | refine blk_drewN ?_ _ | refine blk_drew ?_ | refine blk_alloc ?_ _)); exact BK268.out⟩, ⟨by repeat (first | (with_reducible first | exact HB.out | apply below_alloc | apply pw_below_drewN | apply below_drew1 | refine below_set ?_ GE267.out | refine below_set ?_ GE268.out) | exact HB.out)⟩⟩
    case round =>
     clear H'
     try clear c1
     try clear c2
     try clear p2
     try clear c6
     try clear c6b0
     try clear c6b1
     try clear c7
     try clear c7b0
     try clear c7b1
     try clear c7b2
     try clear c8
     try clear c11
     try clear c11b0
     try clear c11b1
     try clear c12
     try clear c12b0
     try clear c12b1
     try clear c12b2
     try clear c13
     try clear c13b0
     try clear c13b1
     try clear c13b2
     try clear c14
     try clear c15
     try clear c17
     try clear c20
     try clear c23
     try clear c26
     try clear c29
     try clear hcz10_0
     try clear hcz10_1
     try clear hcz10_2
     try clear hcz10_3
     try clear hcz10_4
     try clear hcz10_5
     try clear hcz15_0
     try clear hcz15_1
     try clear hcz15_2
     try clear hcz15_3
     try clear hcz15_4
     try clear hcz15_5
     try clear hcz16_0
     try clear hcz16_1
     try clear hcz16_2
     try clear hcz16_3
     try clear hcz16_4
     try clear hcz16_5
     try clear hcz18_0
     try clear hcz18_1
     try clear hcz18_2
     try clear hcz18_3
     try clear hcz18_4
     try clear hcz18_5
     try clear hcz19_0
     try clear hcz19_1
     try clear hcz19_2
     try clear hcz19_3
     try clear hcz19_4
     try clear hcz19_5
     try clear hcz21_0
     try clear hcz21_1
     try clear hcz21_2
     try clear hcz21_3
     try clear hcz21_4
     try clear hcz21_5
     try clear hcz22_0
     try clear hcz22_1
     try clear hcz22_2
     try clear hcz22_3
     try clear hcz22_4
     try clear hcz22_5
     try clear hcz24_0
     try clear hcz24_1
     try clear hcz24_2
     try clear hcz24_3
     try clear hcz24_4
     try clear hcz24_5
     try clear hcz25_0
     try clear hcz25_1
     try clear hcz25_2
     try clear hcz25_3
     try clear hcz25_4
     try clear hcz25_5
     try clear hcz27_0
     try clear hcz27_1
     try clear hcz27_2
     try clear hcz27_3
     try clear hcz27_4
     try clear hcz27_5
     try clear hcz28_0
     try clear hcz28_1
     try clear hcz28_2
     try clear hcz28_3
     try clear hcz28_4
     try clear hcz28_5
     try clear hcz9_0
     try clear hcz9_1
     try clear hcz9_2
     try clear hcz9_3
     try clear hcz9_4
     try clear hcz9_5
     try clear hfz10_0
     try clear hfz10_1
     try clear hfz10_2
     try clear hfz10_3
     try clear hfz10_4
     try clear hfz10_5
     try clear hfz15_0
     try clear hfz15_1
     try clear hfz15_2
     try clear hfz15_3
     try clear hfz15_4
     try clear hfz15_5
     try clear hfz16_0
     try clear hfz16_1
     try clear hfz16_2
     try clear hfz16_3
     try clear hfz16_4
     try clear hfz16_5
     try clear hfz18_0
     try clear hfz18_1
     try clear hfz18_2
     try clear hfz18_3
     try clear hfz18_4
     try clear hfz18_5
     try clear hfz19_0
     try clear hfz19_1
     try clear hfz19_2
     try clear hfz19_3
     try clear hfz19_4
     try clear hfz19_5
     try clear hfz21_0
     try clear hfz21_1
     try clear hfz21_2
     try clear hfz21_3
     try clear hfz21_4
     try clear hfz21_5
     try clear hfz22_0
     try clear hfz22_1
     try clear hfz22_2
     try clear hfz22_3
     try clear hfz22_4
     try clear hfz22_5
     try clear hfz24_0
     try clear hfz24_1
     try clear hfz24_2
     try clear hfz24_3
     try clear hfz24_4
     try clear hfz24_5
     try clear hfz25_0
     try clear hfz25_1
     try clear hfz25_2
     try clear hfz25_3
     try clear hfz25_4
     try clear hfz25_5
     try clear hfz27_0
     try clear hfz27_1
     try clear hfz27_2
     try clear hfz27_3
     try clear hfz27_4
     try clear hfz27_5
     try clear hfz28_0
     try clear hfz28_1
     try clear hfz28_2
     try clear hfz28_3
     try clear hfz28_4
     try clear hfz28_5
     try clear hfz9_0
     try clear hfz9_1
     try clear hfz9_2
     try clear hfz9_3
     try clear hfz9_4
     try clear hfz9_5
     try clear p2
     obtain ⟨x5_2, rfl, HA, HK2, BK267, BK268, HB⟩ := hrel
     cases gk with
     | zero => exact absurd HA.out (by simp [frisketref07_Same.l0])
     | succ k2 =>
      have H := HA.out
      clear HA
      simp only [frisketref07_Same.l0] at H
      by_cases c30 : x5_2 < (l0_3.length : Int)
      ·rw [if_pos c30] at H
       have c30b0 : decide (x5_2 < (l0_3.length : Int)) = true := decide_eq_true c30
       clear c30
       by_cases c31 : 0 ≤ x5_2
       ·rw [if_pos c31] at H
        have c31b0 : decide (0 ≤ x5_2) = true := decide_eq_true c31
        clear c31
        by_cases c32 : x5_2 < (l1_3.length : Int)
        ·rw [if_pos c32] at H
         have c32b0 : decide (x5_2 < (l1_3.length : Int)) = true := decide_eq_true c32
         clear c32
         by_cases c33 : (!((((rd_T81 l0_3 x5_2).f0).toList) == (((rd_T81 l1_3 x5_2).f0).toList)) || (!(((rd_T81 l0_3 x5_2).f1) == ((rd_T81 l1_3 x5_2).f1)))) = true
         ·rw [if_pos c33] at H
          have c33b0 : (!((((rd_T81 l0_3 x5_2).f0).toList) == (((rd_T81 l1_3 x5_2).f0).toList)) || (!(((rd_T81 l0_3 x5_2).f1) == ((rd_T81 l1_3 x5_2).f1)))) = true := c33
          clear c33
          obtain rfl := Option.some.inj H
          have hnb34 := NB267_268.out
          have hnc34 := NB268_267.out
          have hcz35_0 : wr.cell? ⟨gb267, 0, none⟩ = some (.string a0_0) := (blk_cell BK267.out 0).trans rfl
          have hcz35_1 : wr.cell? ⟨gb267, 1, none⟩ = some (.bool a0_1) := (blk_cell BK267.out 1).trans rfl
          have hcz35_2 : wr.cell? ⟨gb267, 2, none⟩ = some (.int .i64 a0_2) := (blk_cell BK267.out 2).trans rfl
          have hcz35_3 : wr.cell? ⟨gb267, 3, none⟩ = some (.slice A0_3 l0_3.length c0_3) := (blk_cell BK267.out 3).trans rfl
          have hcz35_4 : wr.cell? ⟨gb267, 4, none⟩ = some (.slice A0_4 l0_4.length c0_4) := (blk_cell BK267.out 4).trans rfl
          have hcz35_5 : wr.cell? ⟨gb267, 5, none⟩ = some (.slice A0_5 l0_5.length c0_5) := (blk_cell BK267.out 5).trans rfl
          have hfz35_0 := blk_frozen BK267.out 0
          have hfz35_1 := blk_frozen BK267.out 1
          have hfz35_2 := blk_frozen BK267.out 2
          have hfz35_3 := blk_frozen BK267.out 3
          have hfz35_4 := blk_frozen BK267.out 4
          have hfz35_5 := blk_frozen BK267.out 5
          have p269 : 0 ≤ (x5_2 : Int) := of_decide_eq_true (by first | (with_reducible assumption) | assumption)
          have q269 : x5_2 < (l0_3.length : Int) := of_decide_eq_true (by first | (with_reducible assumption) | assumption)
          obtain ⟨ad269, e269, hx269_0, hx269_1⟩ := at_T81 HR0_3.out x5_2 p269 q269
          cases e269
          replace hx269_0 := (HB.out.cell (World.block_lt_of_cell? w _ hx269_0)).trans hx269_0
          replace hx269_1 := (HB.out.cell (World.block_lt_of_cell? w _ hx269_1)).trans hx269_1
          replace p269 := eq_true p269
          replace q269 := eq_true q269
          have hcz36_0 : wr.cell? ⟨gb268, 0, none⟩ = some (.string a1_0) := (blk_cell BK268.out 0).trans rfl
          have hcz36_1 : wr.cell? ⟨gb268, 1, none⟩ = some (.bool a1_1) := (blk_cell BK268.out 1).trans rfl
          have hcz36_2 : wr.cell? ⟨gb268, 2, none⟩ = some (.int .i64 a1_2) := (blk_cell BK268.out 2).trans rfl
          have hcz36_3 : wr.cell? ⟨gb268, 3, none⟩ = some (.slice A1_3 l1_3.length c1_3) := (blk_cell BK268.out 3).trans rfl
          have hcz36_4 : wr.cell? ⟨gb268, 4, none⟩ = some (.slice A1_4 l1_4.length c1_4) := (blk_cell BK268.out 4).trans rfl
          have hcz36_5 : wr.cell? ⟨gb268, 5, none⟩ = some (.slice A1_5 l1_5.length c1_5) := (blk_cell BK268.out 5).trans rfl
          have hfz36_0 := blk_frozen BK268.out 0
          have hfz36_1 := blk_frozen BK268.out 1
          have hfz36_2 := blk_frozen BK268.out 2
          have hfz36_3 := blk_frozen BK268.out 3
          have hfz36_4 := blk_frozen BK268.out 4
          have hfz36_5 := blk_frozen BK268.out 5
          have p270 : 0 ≤ (x5_2 : Int) := of_decide_eq_true (by first | (with_reducible assumption) | assumption)
          have q270 : x5_2 < (l1_3.length : Int) := of_decide_eq_true (by first | (with_reducible assumption) | assumption)
          obtain ⟨ad270, e270, hx270_0, hx270_1⟩ := at_T81 HR1_3.out x5_2 p270 q270
          cases e270
          replace hx270_0 := (HB.out.cell (World.block_lt_of_cell? w _ hx270_0)).trans hx270_0
          replace hx270_1 := (HB.out.cell (World.block_lt_of_cell? w _ hx270_1)).trans hx270_1
          replace p270 := eq_true p270
          replace q270 := eq_true q270
          go_wp2
          repeat (go_quiet (fail); try go_wp2)
          go_ret
          exact ⟨by first | rfl | (simp [errW_none, errW_some] <;> rfl) | (simp [*, errW_none, errW_some] <;> rfl), by repeat (first | (with_reducible first | exact HB.out | apply below_alloc | apply pw_below_drewN | apply below_drew1 | refine below_set ?_ GE267.out | refine below_set ?_ GE268.out) | exact HB.out)⟩
         ·rw [if_neg c33] at H
          have c33b0 : (!((((rd_T81 l0_3 x5_2).f0).toList) == (((rd_T81 l1_3 x5_2).f0).toList)) || (!(((rd_T81 l0_3 x5_2).f1) == ((rd_T81 l1_3 x5_2).f1)))) = false := by simpa using c33
          clear c33
          have H' := Aside0.mk H
          clear H
          have hnb37 := NB267_268.out
          have hnc37 := NB268_267.out
          have hcz38_0 : wr.cell? ⟨gb267, 0, none⟩ = some (.string a0_0) := (blk_cell BK267.out 0).trans rfl
          have hcz38_1 : wr.cell? ⟨gb267, 1, none⟩ = some (.bool a0_1) := (blk_cell BK267.out 1).trans rfl
          have hcz38_2 : wr.cell? ⟨gb267, 2, none⟩ = some (.int .i64 a0_2) := (blk_cell BK267.out 2).trans rfl
          have hcz38_3 : wr.cell? ⟨gb267, 3, none⟩ = some (.slice A0_3 l0_3.length c0_3) := (blk_cell BK267.out 3).trans rfl
          have hcz38_4 : wr.cell? ⟨gb267, 4, none⟩ = some (.slice A0_4 l0_4.length c0_4) := (blk_cell BK267.out 4).trans rfl
          have hcz38_5 : wr.cell? ⟨gb267, 5, none⟩ = some (.slice A0_5 l0_5.length c0_5) := (blk_cell BK267.out 5).trans rfl
          have hfz38_0 := blk_frozen BK267.out 0
          have hfz38_1 := blk_frozen BK267.out 1
          have hfz38_2 := blk_frozen BK267.out 2
          have hfz38_3 := blk_frozen BK267.out 3
          have hfz38_4 := blk_frozen BK267.out 4
          have hfz38_5 := blk_frozen BK267.out 5
          have p269 : 0 ≤ (x5_2 : Int) := of_decide_eq_true (by first | (with_reducible assumption) | assumption)
          have q269 : x5_2 < (l0_3.length : Int) := of_decide_eq_true (by first | (with_reducible assumption) | assumption)
          obtain ⟨ad269, e269, hx269_0, hx269_1⟩ := at_T81 HR0_3.out x5_2 p269 q269
          cases e269
          replace hx269_0 := (HB.out.cell (World.block_lt_of_cell? w _ hx269_0)).trans hx269_0
          replace hx269_1 := (HB.out.cell (World.block_lt_of_cell? w _ hx269_1)).trans hx269_1
          replace p269 := eq_true p269
          replace q269 := eq_true q269
          have hcz39_0 : wr.cell? ⟨gb268, 0, none⟩ = some (.string a1_0) := (blk_cell BK268.out 0).trans rfl
          have hcz39_1 : wr.cell? ⟨gb268, 1, none⟩ = some (.bool a1_1) := (blk_cell BK268.out 1).trans rfl
          have hcz39_2 : wr.cell? ⟨gb268, 2, none⟩ = some (.int .i64 a1_2) := (blk_cell BK268.out 2).trans rfl
          have hcz39_3 : wr.cell? ⟨gb268, 3, none⟩ = some (.slice A1_3 l1_3.length c1_3) := (blk_cell BK268.out 3).trans rfl
          have hcz39_4 : wr.cell? ⟨gb268, 4, none⟩ = some (.slice A1_4 l1_4.length c1_4) := (blk_cell BK268.out 4).trans rfl
          have hcz39_5 : wr.cell? ⟨gb268, 5, none⟩ = some (.slice A1_5 l1_5.length c1_5) := (blk_cell BK268.out 5).trans rfl
          have hfz39_0 := blk_frozen BK268.out 0
          have hfz39_1 := blk_frozen BK268.out 1
          have hfz39_2 := blk_frozen BK268.out 2
          have hfz39_3 := blk_frozen BK268.out 3
          have hfz39_4 := blk_frozen BK268.out 4
          have hfz39_5 := blk_frozen BK268.out 5
          have p270 : 0 ≤ (x5_2 : Int) := of_decide_eq_true (by first | (with_reducible assumption) | assumption)
          have q270 : x5_2 < (l1_3.length : Int) := of_decide_eq_true (by first | (with_reducible assumption) | assumption)
          obtain ⟨ad270, e270, hx270_0, hx270_1⟩ := at_T81 HR1_3.out x5_2 p270 q270
          cases e270
          replace hx270_0 := (HB.out.cell (World.block_lt_of_cell? w _ hx270_0)).trans hx270_0
          replace hx270_1 := (HB.out.cell (World.block_lt_of_cell? w _ hx270_1)).trans hx270_1
          replace p270 := eq_true p270
          replace q270 := eq_true q270
          go_wp2
          repeat (go_quiet (fail); try go_wp2)
          go_roundg k2
          case measure => have := HJ2.out; have := HK2.out; omega
          case rel => exact ⟨(wrap64 (x5_2 + 1)), (by first | rfl | (simp; done) | (simp [*]; done)), H', ⟨by have := HJ2.out; have := HK2.out; omega⟩, ⟨by (with_reducible repeat (first | refine blk_drewN ?_ _ | refine blk_drew ?_ | refine blk_alloc ?_ _)); exact BK267.out⟩, ⟨by (with_reducible repeat (first | refine blk_drewN ?_ _ | refine blk_drew ?_ | refine blk_alloc ?_ _)); exact BK268.out⟩, ⟨by repeat (first | (with_reducible first | exact HB.out | apply below_alloc | apply pw_below_drewN | apply below_drew1 | refine below_set ?_ GE267.out | refine below_set ?_ GE268.out) | exact HB.out)⟩⟩
        ·rw [if_neg c32] at H
         exact absurd H (by simp)
       ·rw [if_neg c31] at H
        exact absurd H (by simp)
      ·rw [if_neg c30] at H
       have c30b0 : decide (x5_2 < (l0_3.length : Int)) = false := decide_eq_false c30
       clear c30
       have H' := Aside0.mk H
       clear H
       have hnb40 := NB267_268.out
       have hnc40 := NB268_267.out
       have hcz41_0 : wr.cell? ⟨gb267, 0, none⟩ = some (.string a0_0) := (blk_cell BK267.out 0).trans rfl
       have hcz41_1 : wr.cell? ⟨gb267, 1, none⟩ = some (.bool a0_1) := (blk_cell BK267.out 1).trans rfl
       have hcz41_2 : wr.cell? ⟨gb267, 2, none⟩ = some (.int .i64 a0_2) := (blk_cell BK267.out 2).trans rfl
       have hcz41_3 : wr.cell? ⟨gb267, 3, none⟩ = some (.slice A0_3 l0_3.length c0_3) := (blk_cell BK267.out 3).trans rfl
       have hcz41_4 : wr.cell? ⟨gb267, 4, none⟩ = some (.slice A0_4 l0_4.length c0_4) := (blk_cell BK267.out 4).trans rfl
       have hcz41_5 : wr.cell? ⟨gb267, 5, none⟩ = some (.slice A0_5 l0_5.length c0_5) := (blk_cell BK267.out 5).trans rfl
       have hfz41_0 := blk_frozen BK267.out 0
       have hfz41_1 := blk_frozen BK267.out 1
       have hfz41_2 := blk_frozen BK267.out 2
       have hfz41_3 := blk_frozen BK267.out 3
       have hfz41_4 := blk_frozen BK267.out 4
       have hfz41_5 := blk_frozen BK267.out 5
       go_wp2
       repeat (go_quiet (fail); try go_wp2)
       go_loopg [6] k2 (fun kq v6 w' => ∃ (x6_3 : Int), v6 = .int .i64 x6_3 ∧ Aside0 (frisketref07_Same.l1 kq x6_3 a0_0 a0_1 a0_2 l0_3 l0_4 l0_5 a1_0 a1_1 a1_2 l1_3 l1_4 l1_5 = some r) ∧ Aside0 (kq ≤ k2) ∧ Aside0 (w'.heap[gb267]? = some (.cells #[.string a0_0, .bool a0_1, .int .i64 a0_2, (.slice A0_3 l0_3.length c0_3), (.slice A0_4 l0_4.length c0_4), (.slice A0_5 l0_5.length c0_5)] 44 (0, 0))) ∧ Aside0 (w'.heap[gb268]? = some (.cells #[.string a1_0, .bool a1_1, .int .i64 a1_2, (.slice A1_3 l1_3.length c1_3), (.slice A1_4 l1_4.length c1_4), (.slice A1_5 l1_5.length c1_5)] 44 (0, 0))) ∧ Aside0 (Below w.heap.size w w'))
       case atStart => exact ⟨(0), (by first | rfl | (simp; done) | (simp [*]; done)), H', ⟨Nat.le_refl _⟩, ⟨by (with_reducible repeat (first | refine blk_drewN ?_ _ | refine blk_drew ?_ | refine blk_alloc ?_ _)); exact BK267.out⟩, ⟨by (with_reducible repeat (first | refine blk_drewN ?_ _ | refine blk_drew ?_ | refine blk_alloc ?_ _)); exact BK268.out⟩, ⟨by repeat (first | (with_reducible first | exact HB.out | apply below_alloc | apply pw_below_drewN | apply below_drew1 | refine below_set ?_ GE267.out | refine below_set ?_ GE268.out) | exact HB.out)⟩⟩
       case round =>
        clear H'
        try clear c1
        try clear c2
        try clear p2
        try clear q2
        try clear hx2
        try clear c3
        try clear c4
        try clear c6
        try clear c6b0
        try clear c6b1
        try clear p6
        try clear c7
        try clear c7b0
        try clear c7b1
        try clear c7b2
        try clear c8
        try clear c11
        try clear c11b0
        try clear c11b1
        try clear c12
        try clear c12b0
        try clear c12b1
        try clear c12b2
        try clear c13
        try clear c13b0
        try clear c13b1
        try clear c13b2
        try clear c14
        try clear c15
        try clear c17
        try clear c20
        try clear c23
        try clear c26
        try clear p26
        try clear q26
        try clear hx26
        try clear p27
        try clear q27
        try clear hx27
        try clear c29
        try clear c30
        try clear c30b0
        try clear c31
        try clear c31b0
        try clear c32
        try clear c32b0
        try clear c33
        try clear c33b0
        try clear c34
        try clear c37
        try clear c40
        try clear hcz10_0
        try clear hcz10_1
        try clear hcz10_2
        try clear hcz10_3
        try clear hcz10_4
        try clear hcz10_5
        try clear hcz15_0
        try clear hcz15_1
        try clear hcz15_2
        try clear hcz15_3
        try clear hcz15_4
        try clear hcz15_5
        try clear hcz16_0
        try clear hcz16_1
        try clear hcz16_2
        try clear hcz16_3
        try clear hcz16_4
        try clear hcz16_5
        try clear hcz18_0
        try clear hcz18_1
        try clear hcz18_2
        try clear hcz18_3
        try clear hcz18_4
        try clear hcz18_5
        try clear hcz19_0
        try clear hcz19_1
        try clear hcz19_2
        try clear hcz19_3
        try clear hcz19_4
        try clear hcz19_5
        try clear hcz21_0
        try clear hcz21_1
        try clear hcz21_2
        try clear hcz21_3
        try clear hcz21_4
        try clear hcz21_5
        try clear hcz22_0
        try clear hcz22_1
        try clear hcz22_2
        try clear hcz22_3
        try clear hcz22_4
        try clear hcz22_5
        try clear hcz24_0
        try clear hcz24_1
        try clear hcz24_2
        try clear hcz24_3
        try clear hcz24_4
        try clear hcz24_5
        try clear hcz25_0
        try clear hcz25_1
        try clear hcz25_2
        try clear hcz25_3
        try clear hcz25_4
        try clear hcz25_5
        try clear hcz27_0
        try clear hcz27_1
        try clear hcz27_2
        try clear hcz27_3
        try clear hcz27_4
        try clear hcz27_5
        try clear hcz28_0
        try clear hcz28_1
        try clear hcz28_2
        try clear hcz28_3
        try clear hcz28_4
        try clear hcz28_5
        try clear hcz35_0
        try clear hcz35_1
        try clear hcz35_2
        try clear hcz35_3
        try clear hcz35_4
        try clear hcz35_5
        try clear hcz36_0
        try clear hcz36_1
        try clear hcz36_2
        try clear hcz36_3
        try clear hcz36_4
        try clear hcz36_5
        try clear hcz38_0
        try clear hcz38_1
        try clear hcz38_2
        try clear hcz38_3
        try clear hcz38_4
        try clear hcz38_5
        try clear hcz39_0
        try clear hcz39_1
        try clear hcz39_2
        try clear hcz39_3
        try clear hcz39_4
        try clear hcz39_5
        try clear hcz41_0
        try clear hcz41_1
        try clear hcz41_2
        try clear hcz41_3
        try clear hcz41_4
        try clear hcz41_5
        try clear hcz9_0
        try clear hcz9_1
        try clear hcz9_2
        try clear hcz9_3
        try clear hcz9_4
        try clear hcz9_5
        try clear hfz10_0
        try clear hfz10_1
        try clear hfz10_2
        try clear hfz10_3
        try clear hfz10_4
        try clear hfz10_5
        try clear hfz15_0
        try clear hfz15_1
        try clear hfz15_2
        try clear hfz15_3
        try clear hfz15_4
        try clear hfz15_5
        try clear hfz16_0
        try clear hfz16_1
        try clear hfz16_2
        try clear hfz16_3
        try clear hfz16_4
        try clear hfz16_5
        try clear hfz18_0
        try clear hfz18_1
        try clear hfz18_2
        try clear hfz18_3
        try clear hfz18_4
        try clear hfz18_5
        try clear hfz19_0
        try clear hfz19_1
        try clear hfz19_2
        try clear hfz19_3
        try clear hfz19_4
        try clear hfz19_5
        try clear hfz21_0
        try clear hfz21_1
        try clear hfz21_2
        try clear hfz21_3
        try clear hfz21_4
        try clear hfz21_5
        try clear hfz22_0
        try clear hfz22_1
        try clear hfz22_2
        try clear hfz22_3
        try clear hfz22_4
        try clear hfz22_5
        try clear hfz24_0
        try clear hfz24_1
        try clear hfz24_2
        try clear hfz24_3
        try clear hfz24_4
        try clear hfz24_5
        try clear hfz25_0
        try clear hfz25_1
        try clear hfz25_2
        try clear hfz25_3
        try clear hfz25_4
        try clear hfz25_5
        try clear hfz27_0
        try clear hfz27_1
        try clear hfz27_2
        try clear hfz27_3
        try clear hfz27_4
        try clear hfz27_5
        try clear hfz28_0
        try clear hfz28_1
        try clear hfz28_2
        try clear hfz28_3
        try clear hfz28_4
        try clear hfz28_5
        try clear hfz35_0
        try clear hfz35_1
        try clear hfz35_2
        try clear hfz35_3
        try clear hfz35_4
        try clear hfz35_5
        try clear hfz36_0
        try clear hfz36_1
        try clear hfz36_2
        try clear hfz36_3
        try clear hfz36_4
        try clear hfz36_5
        try clear hfz38_0
        try clear hfz38_1
        try clear hfz38_2
        try clear hfz38_3
        try clear hfz38_4
        try clear hfz38_5
        try clear hfz39_0
        try clear hfz39_1
        try clear hfz39_2
        try clear hfz39_3
        try clear hfz39_4
        try clear hfz39_5
        try clear hfz41_0
        try clear hfz41_1
        try clear hfz41_2
        try clear hfz41_3
        try clear hfz41_4
        try clear hfz41_5
        try clear hfz9_0
        try clear hfz9_1
        try clear hfz9_2
        try clear hfz9_3
        try clear hfz9_4
        try clear hfz9_5
        try clear hx269_0
        try clear hx269_1
        try clear hx270_0
        try clear hx270_1
        try clear p2
        try clear p269
        try clear p270
        try clear q269
        try clear q270
        obtain ⟨x6_3, rfl, HA, HK3, BK267, BK268, HB⟩ := hrel
        cases gk with
        | zero => exact absurd HA.out (by simp [frisketref07_Same.l1])
        | succ k3 =>
         have H := HA.out
         clear HA
         simp only [frisketref07_Same.l1] at H
         by_cases c42 : x6_3 < (l0_4.length : Int)
         ·rw [if_pos c42] at H
          have c42b0 : decide (x6_3 < (l0_4.length : Int)) = true := decide_eq_true c42
          clear c42
          by_cases c43 : 0 ≤ x6_3
          ·rw [if_pos c43] at H
           have c43b0 : decide (0 ≤ x6_3) = true := decide_eq_true c43
           clear c43
           by_cases c44 : x6_3 < (l1_4.length : Int)
           ·rw [if_pos c44] at H
            have c44b0 : decide (x6_3 < (l1_4.length : Int)) = true := decide_eq_true c44
            clear c44
            by_cases c45 : (!((((rd_T83 l0_4 x6_3).f0).toList) == (((rd_T83 l1_4 x6_3).f0).toList)) || (!((((rd_T83 l0_4 x6_3).f1).toList) == (((rd_T83 l1_4 x6_3).f1).toList)) || (!((((rd_T83 l0_4 x6_3).f2).toList) == (((rd_T83 l1_4 x6_3).f2).toList))))) = true
            ·rw [if_pos c45] at H
             have c45b0 : (!((((rd_T83 l0_4 x6_3).f0).toList) == (((rd_T83 l1_4 x6_3).f0).toList)) || (!((((rd_T83 l0_4 x6_3).f1).toList) == (((rd_T83 l1_4 x6_3).f1).toList)) || (!((((rd_T83 l0_4 x6_3).f2).toList) == (((rd_T83 l1_4 x6_3).f2).toList))))) = true := c45
             clear c45
             obtain rfl := Option.some.inj H
             have hnb46 := NB267_268.out
             have hnc46 := NB268_267.out
             have hcz47_0 : wr.cell? ⟨gb267, 0, none⟩ = some (.string a0_0) := (blk_cell BK267.out 0).trans rfl
             have hcz47_1 : wr.cell? ⟨gb267, 1, none⟩ = some (.bool a0_1) := (blk_cell BK267.out 1).trans rfl
             have hcz47_2 : wr.cell? ⟨gb267, 2, none⟩ = some (.int .i64 a0_2) := (blk_cell BK267.out 2).trans rfl
             have hcz47_3 : wr.cell? ⟨gb267, 3, none⟩ = some (.slice A0_3 l0_3.length c0_3) := (blk_cell BK267.out 3).trans rfl
             have hcz47_4 : wr.cell? ⟨gb267, 4, none⟩ = some (.slice A0_4 l0_4.length c0_4) := (blk_cell BK267.out 4).trans rfl
             have hcz47_5 : wr.cell? ⟨gb267, 5, none⟩ = some (.slice A0_5 l0_5.length c0_5) := (blk_cell BK267.out 5).trans rfl
             have hfz47_0 := blk_frozen BK267.out 0
             have hfz47_1 := blk_frozen BK267.out 1
             have hfz47_2 := blk_frozen BK267.out 2
             have hfz47_3 := blk_frozen BK267.out 3
             have hfz47_4 := blk_frozen BK267.out 4
             have hfz47_5 := blk_frozen BK267.out 5
             have p271 : 0 ≤ (x6_3 : Int) := of_decide_eq_true (by first | (with_reducible assumption) | assumption)
             have q271 : x6_3 < (l0_4.length : Int) := of_decide_eq_true (by first | (with_reducible assumption) | assumption)
             obtain ⟨ad271, e271, hx271_0, hx271_1, hx271_2⟩ := at_T83 HR0_4.out x6_3 p271 q271
             cases e271
             replace hx271_0 := (HB.out.cell (World.block_lt_of_cell? w _ hx271_0)).trans hx271_0
             replace hx271_1 := (HB.out.cell (World.block_lt_of_cell? w _ hx271_1)).trans hx271_1
             replace hx271_2 := (HB.out.cell (World.block_lt_of_cell? w _ hx271_2)).trans hx271_2
             replace p271 := eq_true p271
             replace q271 := eq_true q271
             have hcz48_0 : wr.cell? ⟨gb268, 0, none⟩ = some (.string a1_0) := (blk_cell BK268.out 0).trans rfl
             have hcz48_1 : wr.cell? ⟨gb268, 1, none⟩ = some (.bool a1_1) := (blk_cell BK268.out 1).trans rfl
             have hcz48_2 : wr.cell? ⟨gb268, 2, none⟩ = some (.int .i64 a1_2) := (blk_cell BK268.out 2).trans rfl
             have hcz48_3 : wr.cell? ⟨gb268, 3, none⟩ = some (.slice A1_3 l1_3.length c1_3) := (blk_cell BK268.out 3).trans rfl
             have hcz48_4 : wr.cell? ⟨gb268, 4, none⟩ = some (.slice A1_4 l1_4.length c1_4) := (blk_cell BK268.out 4).trans rfl
             have hcz48_5 : wr.cell? ⟨gb268, 5, none⟩ = some (.slice A1_5 l1_5.length c1_5) := (blk_cell BK268.out 5).trans rfl
             have hfz48_0 := blk_frozen BK268.out 0
             have hfz48_1 := blk_frozen BK268.out 1
             have hfz48_2 := blk_frozen BK268.out 2
             have hfz48_3 := blk_frozen BK268.out 3
             have hfz48_4 := blk_frozen BK268.out 4
             have hfz48_5 := blk_frozen BK268.out 5
             have p272 : 0 ≤ (x6_3 : Int) := of_decide_eq_true (by first | (with_reducible assumption) | assumption)
             have q272 : x6_3 < (l1_4.length : Int) := of_decide_eq_true (by first | (with_reducible assumption) | assumption)
             obtain ⟨ad272, e272, hx272_0, hx272_1, hx272_2⟩ := at_T83 HR1_4.out x6_3 p272 q272
             cases e272
             replace hx272_0 := (HB.out.cell (World.block_lt_of_cell? w _ hx272_0)).trans hx272_0
             replace hx272_1 := (HB.out.cell (World.block_lt_of_cell? w _ hx272_1)).trans hx272_1
             replace hx272_2 := (HB.out.cell (World.block_lt_of_cell? w _ hx272_2)).trans hx272_2
             replace p272 := eq_true p272
             replace q272 := eq_true q272
             go_wp2
             repeat (go_quiet (fail); try go_wp2)
             go_ret
             exact ⟨by first | rfl | (simp [errW_none, errW_some] <;> rfl) | (simp [*, errW_none, errW_some] <;> rfl), by repeat (first | (with_reducible first | exact HB.out | apply below_alloc | apply pw_below_drewN | apply below_drew1 | refine below_set ?_ GE267.out | refine below_set ?_ GE268.out) | exact HB.out)⟩
            ·rw [if_neg c45] at H
             have c45b0 : (!((((rd_T83 l0_4 x6_3).f0).toList) == (((rd_T83 l1_4 x6_3).f0).toList)) || (!((((rd_T83 l0_4 x6_3).f1).toList) == (((rd_T83 l1_4 x6_3).f1).toList)) || (!((((rd_T83 l0_4 x6_3).f2).toList) == (((rd_T83 l1_4 x6_3).f2).toList))))) = false := by simpa using c45
             clear c45
             have H' := Aside0.mk H
             clear H
             have hnb49 := NB267_268.out
             have hnc49 := NB268_267.out
             have hcz50_0 : wr.cell? ⟨gb267, 0, none⟩ = some (.string a0_0) := (blk_cell BK267.out 0).trans rfl
             have hcz50_1 : wr.cell? ⟨gb267, 1, none⟩ = some (.bool a0_1) := (blk_cell BK267.out 1).trans rfl
             have hcz50_2 : wr.cell? ⟨gb267, 2, none⟩ = some (.int .i64 a0_2) := (blk_cell BK267.out 2).trans rfl
             have hcz50_3 : wr.cell? ⟨gb267, 3, none⟩ = some (.slice A0_3 l0_3.length c0_3) := (blk_cell BK267.out 3).trans rfl
             have hcz50_4 : wr.cell? ⟨gb267, 4, none⟩ = some (.slice A0_4 l0_4.length c0_4) := (blk_cell BK267.out 4).trans rfl
             have hcz50_5 : wr.cell? ⟨gb267, 5, none⟩ = some (.slice A0_5 l0_5.length c0_5) := (blk_cell BK267.out 5).trans rfl
             have hfz50_0 := blk_frozen BK267.out 0
             have hfz50_1 := blk_frozen BK267.out 1
             have hfz50_2 := blk_frozen BK267.out 2
             have hfz50_3 := blk_frozen BK267.out 3
             have hfz50_4 := blk_frozen BK267.out 4
             have hfz50_5 := blk_frozen BK267.out 5
             have p271 : 0 ≤ (x6_3 : Int) := of_decide_eq_true (by first | (with_reducible assumption) | assumption)
             have q271 : x6_3 < (l0_4.length : Int) := of_decide_eq_true (by first | (with_reducible assumption) | assumption)
             obtain ⟨ad271, e271, hx271_0, hx271_1, hx271_2⟩ := at_T83 HR0_4.out x6_3 p271 q271
             cases e271
             replace hx271_0 := (HB.out.cell (World.block_lt_of_cell? w _ hx271_0)).trans hx271_0
             replace hx271_1 := (HB.out.cell (World.block_lt_of_cell? w _ hx271_1)).trans hx271_1
             replace hx271_2 := (HB.out.cell (World.block_lt_of_cell? w _ hx271_2)).trans hx271_2
             replace p271 := eq_true p271
             replace q271 := eq_true q271
             have hcz51_0 : wr.cell? ⟨gb268, 0, none⟩ = some (.string a1_0) := (blk_cell BK268.out 0).trans rfl
             have hcz51_1 : wr.cell? ⟨gb268, 1, none⟩ = some (.bool a1_1) := (blk_cell BK268.out 1).trans rfl
             have hcz51_2 : wr.cell? ⟨gb268, 2, none⟩ = some (.int .i64 a1_2) := (blk_cell BK268.out 2).trans rfl
             have hcz51_3 : wr.cell? ⟨gb268, 3, none⟩ = some (.slice A1_3 l1_3.length c1_3) := (blk_cell BK268.out 3).trans rfl
             have hcz51_4 : wr.cell? ⟨gb268, 4, none⟩ = some (.slice A1_4 l1_4.length c1_4) := (blk_cell BK268.out 4).trans rfl
             have hcz51_5 : wr.cell? ⟨gb268, 5, none⟩ = some (.slice A1_5 l1_5.length c1_5) := (blk_cell BK268.out 5).trans rfl
             have hfz51_0 := blk_frozen BK268.out 0
             have hfz51_1 := blk_frozen BK268.out 1
             have hfz51_2 := blk_frozen BK268.out 2
             have hfz51_3 := blk_frozen BK268.out 3
             have hfz51_4 := blk_frozen BK268.out 4
             have hfz51_5 := blk_frozen BK268.out 5
             have p272 : 0 ≤ (x6_3 : Int) := of_decide_eq_true (by first | (with_reducible assumption) | assumption)
             have q272 : x6_3 < (l1_4.length : Int) := of_decide_eq_true (by first | (with_reducible assumption) | assumption)
             obtain ⟨ad272, e272, hx272_0, hx272_1, hx272_2⟩ := at_T83 HR1_4.out x6_3 p272 q272
             cases e272
             replace hx272_0 := (HB.out.cell (World.block_lt_of_cell? w _ hx272_0)).trans hx272_0
             replace hx272_1 := (HB.out.cell (World.block_lt_of_cell? w _ hx272_1)).trans hx272_1
             replace hx272_2 := (HB.out.cell (World.block_lt_of_cell? w _ hx272_2)).trans hx272_2
             replace p272 := eq_true p272
             replace q272 := eq_true q272
             go_wp2
             repeat (go_quiet (fail); try go_wp2)
             go_roundg k3
             case measure => have := HJ2.out; have := HK2.out; have := HK3.out; omega
             case rel => exact ⟨(wrap64 (x6_3 + 1)), (by first | rfl | (simp; done) | (simp [*]; done)), H', ⟨by have := HJ2.out; have := HK2.out; have := HK3.out; omega⟩, ⟨by (with_reducible repeat (first | refine blk_drewN ?_ _ | refine blk_drew ?_ | refine blk_alloc ?_ _)); exact BK267.out⟩, ⟨by (with_reducible repeat (first | refine blk_drewN ?_ _ | refine blk_drew ?_ | refine blk_alloc ?_ _)); exact BK268.out⟩, ⟨by repeat (first | (with_reducible first | exact HB.out | apply below_alloc | apply pw_below_drewN | apply below_drew1 | refine below_set ?_ GE267.out | refine below_set ?_ GE268.out) | exact HB.out)⟩⟩
           ·rw [if_neg c44] at H
            exact absurd H (by simp)
          ·rw [if_neg c43] at H
           exact absurd H (by simp)
         ·rw [if_neg c42] at H
          have c42b0 : decide (x6_3 < (l0_4.length : Int)) = false := decide_eq_false c42
          clear c42
          have H' := Aside0.mk H
          clear H
          have hnb52 := NB267_268.out
          have hnc52 := NB268_267.out
          have hcz53_0 : wr.cell? ⟨gb267, 0, none⟩ = some (.string a0_0) := (blk_cell BK267.out 0).trans rfl
          have hcz53_1 : wr.cell? ⟨gb267, 1, none⟩ = some (.bool a0_1) := (blk_cell BK267.out 1).trans rfl
          have hcz53_2 : wr.cell? ⟨gb267, 2, none⟩ = some (.int .i64 a0_2) := (blk_cell BK267.out 2).trans rfl
          have hcz53_3 : wr.cell? ⟨gb267, 3, none⟩ = some (.slice A0_3 l0_3.length c0_3) := (blk_cell BK267.out 3).trans rfl
          have hcz53_4 : wr.cell? ⟨gb267, 4, none⟩ = some (.slice A0_4 l0_4.length c0_4) := (blk_cell BK267.out 4).trans rfl
          have hcz53_5 : wr.cell? ⟨gb267, 5, none⟩ = some (.slice A0_5 l0_5.length c0_5) := (blk_cell BK267.out 5).trans rfl
          have hfz53_0 := blk_frozen BK267.out 0
          have hfz53_1 := blk_frozen BK267.out 1
          have hfz53_2 := blk_frozen BK267.out 2
          have hfz53_3 := blk_frozen BK267.out 3
          have hfz53_4 := blk_frozen BK267.out 4
          have hfz53_5 := blk_frozen BK267.out 5
          go_wp2
          repeat (go_quiet (fail); try go_wp2)
          go_loopg [7] k3 (fun kq v7 w' => ∃ (x7_4 : Int), v7 = .int .i64 x7_4 ∧ Aside0 (frisketref07_Same.l2 kq x7_4 a0_0 a0_1 a0_2 l0_3 l0_4 l0_5 a1_0 a1_1 a1_2 l1_3 l1_4 l1_5 = some r) ∧ Aside0 (kq ≤ k3) ∧ Aside0 (w'.heap[gb267]? = some (.cells #[.string a0_0, .bool a0_1, .int .i64 a0_2, (.slice A0_3 l0_3.length c0_3), (.slice A0_4 l0_4.length c0_4), (.slice A0_5 l0_5.length c0_5)] 44 (0, 0))) ∧ Aside0 (w'.heap[gb268]? = some (.cells #[.string a1_0, .bool a1_1, .int .i64 a1_2, (.slice A1_3 l1_3.length c1_3), (.slice A1_4 l1_4.length c1_4), (.slice A1_5 l1_5.length c1_5)] 44 (0, 0))) ∧ Aside0 (Below w.heap.size w w'))
          case atStart => exact ⟨(0), (by first | rfl | (simp; done) | (simp [*]; done)), H', ⟨Nat.le_refl _⟩, ⟨by (with_reducible repeat (first | refine blk_drewN ?_ _ | refine blk_drew ?_ | refine blk_alloc ?_ _)); exact BK267.out⟩, ⟨by (with_reducible repeat (first | refine blk_drewN ?_ _ | refine blk_drew ?_ | refine blk_alloc ?_ _)); exact BK268.out⟩, ⟨by repeat (first | (with_reducible first | exact HB.out | apply below_alloc | apply pw_below_drewN | apply below_drew1 | refine below_set ?_ GE267.out | refine below_set ?_ GE268.out) | exact HB.out)⟩⟩
          case round =>
           clear H'
           try clear c1
           try clear c2
           try clear p2
           try clear q2
           try clear hx2
           try clear c3
           try clear c4
           try clear c5
           try clear c6
           try clear c6b0
           try clear c6b1
           try clear p6
           try clear c7
           try clear c7b0
           try clear c7b1
           try clear c7b2
           try clear c8
           try clear c11
           try clear c11b0
           try clear c11b1
           try clear c12
           try clear c12b0
           try clear c12b1
           try clear c12b2
           try clear c13
           try clear c13b0
           try clear c13b1
           try clear c13b2
           try clear c14
           try clear c15
           try clear c17
           try clear c20
           try clear c23
           try clear c26
           try clear p26
           try clear q26
           try clear hx26
           try clear p27
           try clear q27
           try clear hx27
           try clear c29
           try clear c30
           try clear c30b0
           try clear c31
           try clear c31b0
           try clear c32
           try clear c32b0
           try clear c33
           try clear c33b0
           try clear c34
           try clear c37
           try clear c40
           try clear c42
           try clear c42b0
           try clear c43
           try clear c43b0
           try clear c44
           try clear c44b0
           try clear c45
           try clear c45b0
           try clear c46
           try clear c49
           try clear c52
           try clear hcz10_0
           try clear hcz10_1
           try clear hcz10_2
           try clear hcz10_3
           try clear hcz10_4
           try clear hcz10_5
           try clear hcz15_0
           try clear hcz15_1
           try clear hcz15_2
           try clear hcz15_3
           try clear hcz15_4
           try clear hcz15_5
           try clear hcz16_0
           try clear hcz16_1
           try clear hcz16_2
           try clear hcz16_3
           try clear hcz16_4
           try clear hcz16_5
           try clear hcz18_0
           try clear hcz18_1
           try clear hcz18_2
           try clear hcz18_3
           try clear hcz18_4
           try clear hcz18_5
           try clear hcz19_0
           try clear hcz19_1
           try clear hcz19_2
           try clear hcz19_3
           try clear hcz19_4
           try clear hcz19_5
           try clear hcz21_0
           try clear hcz21_1
           try clear hcz21_2
           try clear hcz21_3
           try clear hcz21_4
           try clear hcz21_5
           try clear hcz22_0
           try clear hcz22_1
           try clear hcz22_2
           try clear hcz22_3
           try clear hcz22_4
           try clear hcz22_5
           try clear hcz24_0
           try clear hcz24_1
           try clear hcz24_2
           try clear hcz24_3
           try clear hcz24_4
           try clear hcz24_5
           try clear hcz25_0
           try clear hcz25_1
           try clear hcz25_2
           try clear hcz25_3
           try clear hcz25_4
           try clear hcz25_5
           try clear hcz27_0
           try clear hcz27_1
           try clear hcz27_2
           try clear hcz27_3
           try clear hcz27_4
           try clear hcz27_5
           try clear hcz28_0
           try clear hcz28_1
           try clear hcz28_2
           try clear hcz28_3
           try clear hcz28_4
           try clear hcz28_5
           try clear hcz35_0
           try clear hcz35_1
           try clear hcz35_2
           try clear hcz35_3
           try clear hcz35_4
           try clear hcz35_5
           try clear hcz36_0
           try clear hcz36_1
           try clear hcz36_2
           try clear hcz36_3
           try clear hcz36_4
           try clear hcz36_5
           try clear hcz38_0
           try clear hcz38_1
           try clear hcz38_2
           try clear hcz38_3
           try clear hcz38_4
           try clear hcz38_5
           try clear hcz39_0
           try clear hcz39_1
           try clear hcz39_2
           try clear hcz39_3
           try clear hcz39_4
           try clear hcz39_5
           try clear hcz41_0
           try clear hcz41_1
           try clear hcz41_2
           try clear hcz41_3
           try clear hcz41_4
           try clear hcz41_5
           try clear hcz47_0
           try clear hcz47_1
           try clear hcz47_2
           try clear hcz47_3
           try clear hcz47_4
           try clear hcz47_5
           try clear hcz48_0
           try clear hcz48_1
           try clear hcz48_2
           try clear hcz48_3
           try clear hcz48_4
           try clear hcz48_5
           try clear hcz50_0
           try clear hcz50_1
           try clear hcz50_2
           try clear hcz50_3
           try clear hcz50_4
           try clear hcz50_5
           try clear hcz51_0
           try clear hcz51_1
           try clear hcz51_2
           try clear hcz51_3
           try clear hcz51_4
           try clear hcz51_5
           try clear hcz53_0
           try clear hcz53_1
           try clear hcz53_2
           try clear hcz53_3
           try clear hcz53_4
           try clear hcz53_5
           try clear hcz9_0
           try clear hcz9_1
           try clear hcz9_2
           try clear hcz9_3
           try clear hcz9_4
           try clear hcz9_5
           try clear hfz10_0
           try clear hfz10_1
           try clear hfz10_2
           try clear hfz10_3
           try clear hfz10_4
           try clear hfz10_5
           try clear hfz15_0
           try clear hfz15_1
           try clear hfz15_2
           try clear hfz15_3
           try clear hfz15_4
           try clear hfz15_5
           try clear hfz16_0
           try clear hfz16_1
           try clear hfz16_2
           try clear hfz16_3
           try clear hfz16_4
           try clear hfz16_5
           try clear hfz18_0
           try clear hfz18_1
           try clear hfz18_2
           try clear hfz18_3
           try clear hfz18_4
           try clear hfz18_5
           try clear hfz19_0
           try clear hfz19_1
           try clear hfz19_2
           try clear hfz19_3
           try clear hfz19_4
           try clear hfz19_5
           try clear hfz21_0
           try clear hfz21_1
           try clear hfz21_2
           try clear hfz21_3
           try clear hfz21_4
           try clear hfz21_5
           try clear hfz22_0
           try clear hfz22_1
           try clear hfz22_2
           try clear hfz22_3
           try clear hfz22_4
           try clear hfz22_5
           try clear hfz24_0
           try clear hfz24_1
           try clear hfz24_2
           try clear hfz24_3
           try clear hfz24_4
           try clear hfz24_5
           try clear hfz25_0
           try clear hfz25_1
           try clear hfz25_2
           try clear hfz25_3
           try clear hfz25_4
           try clear hfz25_5
           try clear hfz27_0
           try clear hfz27_1
           try clear hfz27_2
           try clear hfz27_3
           try clear hfz27_4
           try clear hfz27_5
           try clear hfz28_0
           try clear hfz28_1
           try clear hfz28_2
           try clear hfz28_3
           try clear hfz28_4
           try clear hfz28_5
           try clear hfz35_0
           try clear hfz35_1
           try clear hfz35_2
           try clear hfz35_3
           try clear hfz35_4
           try clear hfz35_5
           try clear hfz36_0
           try clear hfz36_1
           try clear hfz36_2
           try clear hfz36_3
           try clear hfz36_4
           try clear hfz36_5
           try clear hfz38_0
           try clear hfz38_1
           try clear hfz38_2
           try clear hfz38_3
           try clear hfz38_4
           try clear hfz38_5
           try clear hfz39_0
           try clear hfz39_1
           try clear hfz39_2
           try clear hfz39_3
           try clear hfz39_4
           try clear hfz39_5
           try clear hfz41_0
           try clear hfz41_1
           try clear hfz41_2
           try clear hfz41_3
           try clear hfz41_4
           try clear hfz41_5
           try clear hfz47_0
           try clear hfz47_1
           try clear hfz47_2
           try clear hfz47_3
           try clear hfz47_4
           try clear hfz47_5
           try clear hfz48_0
           try clear hfz48_1
           try clear hfz48_2
           try clear hfz48_3
           try clear hfz48_4
           try clear hfz48_5
           try clear hfz50_0
           try clear hfz50_1
           try clear hfz50_2
           try clear hfz50_3
           try clear hfz50_4
           try clear hfz50_5
           try clear hfz51_0
           try clear hfz51_1
           try clear hfz51_2
           try clear hfz51_3
           try clear hfz51_4
           try clear hfz51_5
           try clear hfz53_0
           try clear hfz53_1
           try clear hfz53_2
           try clear hfz53_3
           try clear hfz53_4
           try clear hfz53_5
           try clear hfz9_0
           try clear hfz9_1
           try clear hfz9_2
           try clear hfz9_3
           try clear hfz9_4
           try clear hfz9_5
           try clear hx269_0
           try clear hx269_1
           try clear hx270_0
           try clear hx270_1
           try clear hx271_0
           try clear hx271_1
           try clear hx271_2
           try clear hx272_0
           try clear hx272_1
           try clear hx272_2
           try clear p2
           try clear p26
           try clear p269
           try clear p27
           try clear p270
           try clear p271
           try clear p272
           try clear p6
           try clear q2
           try clear q26
           try clear q269
           try clear q27
           try clear q270
           try clear q271
           try clear q272
           obtain ⟨x7_4, rfl, HA, HK4, BK267, BK268, HB⟩ := hrel
           cases gk with
           | zero => exact absurd HA.out (by simp [frisketref07_Same.l2])
           | succ k4 =>
            have H := HA.out
            clear HA
            simp only [frisketref07_Same.l2] at H
            by_cases c54 : x7_4 < (l0_5.length : Int)
            ·rw [if_pos c54] at H
             have c54b0 : decide (x7_4 < (l0_5.length : Int)) = true := decide_eq_true c54
             clear c54
             by_cases c55 : 0 ≤ x7_4
             ·rw [if_pos c55] at H
              have c55b0 : decide (0 ≤ x7_4) = true := decide_eq_true c55
              clear c55
              by_cases c56 : x7_4 < (l1_5.length : Int)
              ·rw [if_pos c56] at H
               have c56b0 : decide (x7_4 < (l1_5.length : Int)) = true := decide_eq_true c56
               clear c56
               by_cases c57 : (!((((rd_T84 l0_5 x7_4).f0).toList) == (((rd_T84 l1_5 x7_4).f0).toList)) || (!((((rd_T84 l0_5 x7_4).f1).toList) == (((rd_T84 l1_5 x7_4).f1).toList)) || (!(((rd_T84 l0_5 x7_4).f2) == ((rd_T84 l1_5 x7_4).f2))))) = true
               ·rw [if_pos c57] at H
                have c57b0 : (!((((rd_T84 l0_5 x7_4).f0).toList) == (((rd_T84 l1_5 x7_4).f0).toList)) || (!((((rd_T84 l0_5 x7_4).f1).toList) == (((rd_T84 l1_5 x7_4).f1).toList)) || (!(((rd_T84 l0_5 x7_4).f2) == ((rd_T84 l1_5 x7_4).f2))))) = true := c57
                clear c57
                obtain rfl := Option.some.inj H
                have hnb58 := NB267_268.out
                have hnc58 := NB268_267.out
                have hcz59_0 : wr.cell? ⟨gb267, 0, none⟩ = some (.string a0_0) := (blk_cell BK267.out 0).trans rfl
                have hcz59_1 : wr.cell? ⟨gb267, 1, none⟩ = some (.bool a0_1) := (blk_cell BK267.out 1).trans rfl
                have hcz59_2 : wr.cell? ⟨gb267, 2, none⟩ = some (.int .i64 a0_2) := (blk_cell BK267.out 2).trans rfl
                have hcz59_3 : wr.cell? ⟨gb267, 3, none⟩ = some (.slice A0_3 l0_3.length c0_3) := (blk_cell BK267.out 3).trans rfl
                have hcz59_4 : wr.cell? ⟨gb267, 4, none⟩ = some (.slice A0_4 l0_4.length c0_4) := (blk_cell BK267.out 4).trans rfl
                have hcz59_5 : wr.cell? ⟨gb267, 5, none⟩ = some (.slice A0_5 l0_5.length c0_5) := (blk_cell BK267.out 5).trans rfl
                have hfz59_0 := blk_frozen BK267.out 0
                have hfz59_1 := blk_frozen BK267.out 1
                have hfz59_2 := blk_frozen BK267.out 2
                have hfz59_3 := blk_frozen BK267.out 3
                have hfz59_4 := blk_frozen BK267.out 4
                have hfz59_5 := blk_frozen BK267.out 5
                have p273 : 0 ≤ (x7_4 : Int) := of_decide_eq_true (by first | (with_reducible assumption) | assumption)
                have q273 : x7_4 < (l0_5.length : Int) := of_decide_eq_true (by first | (with_reducible assumption) | assumption)
                obtain ⟨ad273, e273, hx273_0, hx273_1, hx273_2⟩ := at_T84 HR0_5.out x7_4 p273 q273
                cases e273
                replace hx273_0 := (HB.out.cell (World.block_lt_of_cell? w _ hx273_0)).trans hx273_0
                replace hx273_1 := (HB.out.cell (World.block_lt_of_cell? w _ hx273_1)).trans hx273_1
                replace hx273_2 := (HB.out.cell (World.block_lt_of_cell? w _ hx273_2)).trans hx273_2
                replace p273 := eq_true p273
                replace q273 := eq_true q273
                have hcz60_0 : wr.cell? ⟨gb268, 0, none⟩ = some (.string a1_0) := (blk_cell BK268.out 0).trans rfl
                have hcz60_1 : wr.cell? ⟨gb268, 1, none⟩ = some (.bool a1_1) := (blk_cell BK268.out 1).trans rfl
                have hcz60_2 : wr.cell? ⟨gb268, 2, none⟩ = some (.int .i64 a1_2) := (blk_cell BK268.out 2).trans rfl
                have hcz60_3 : wr.cell? ⟨gb268, 3, none⟩ = some (.slice A1_3 l1_3.length c1_3) := (blk_cell BK268.out 3).trans rfl
                have hcz60_4 : wr.cell? ⟨gb268, 4, none⟩ = some (.slice A1_4 l1_4.length c1_4) := (blk_cell BK268.out 4).trans rfl
                have hcz60_5 : wr.cell? ⟨gb268, 5, none⟩ = some (.slice A1_5 l1_5.length c1_5) := (blk_cell BK268.out 5).trans rfl
                have hfz60_0 := blk_frozen BK268.out 0
                have hfz60_1 := blk_frozen BK268.out 1
                have hfz60_2 := blk_frozen BK268.out 2
                have hfz60_3 := blk_frozen BK268.out 3
                have hfz60_4 := blk_frozen BK268.out 4
                have hfz60_5 := blk_frozen BK268.out 5
                have p274 : 0 ≤ (x7_4 : Int) := of_decide_eq_true (by first | (with_reducible assumption) | assumption)
                have q274 : x7_4 < (l1_5.length : Int) := of_decide_eq_true (by first | (with_reducible assumption) | assumption)
                obtain ⟨ad274, e274, hx274_0, hx274_1, hx274_2⟩ := at_T84 HR1_5.out x7_4 p274 q274
                cases e274
                replace hx274_0 := (HB.out.cell (World.block_lt_of_cell? w _ hx274_0)).trans hx274_0
                replace hx274_1 := (HB.out.cell (World.block_lt_of_cell? w _ hx274_1)).trans hx274_1
                replace hx274_2 := (HB.out.cell (World.block_lt_of_cell? w _ hx274_2)).trans hx274_2
                replace p274 := eq_true p274
                replace q274 := eq_true q274
                go_wp2
                repeat (go_quiet (fail); try go_wp2)
                go_ret
                exact ⟨by first | rfl | (simp [errW_none, errW_some] <;> rfl) | (simp [*, errW_none, errW_some] <;> rfl), by repeat (first | (with_reducible first | exact HB.out | apply below_alloc | apply pw_below_drewN | apply below_drew1 | refine below_set ?_ GE267.out | refine below_set ?_ GE268.out) | exact HB.out)⟩
               ·rw [if_neg c57] at H
                have c57b0 : (!((((rd_T84 l0_5 x7_4).f0).toList) == (((rd_T84 l1_5 x7_4).f0).toList)) || (!((((rd_T84 l0_5 x7_4).f1).toList) == (((rd_T84 l1_5 x7_4).f1).toList)) || (!(((rd_T84 l0_5 x7_4).f2) == ((rd_T84 l1_5 x7_4).f2))))) = false := by simpa using c57
                clear c57
                have H' := Aside0.mk H
                clear H
                have hnb61 := NB267_268.out
                have hnc61 := NB268_267.out
                have hcz62_0 : wr.cell? ⟨gb267, 0, none⟩ = some (.string a0_0) := (blk_cell BK267.out 0).trans rfl
                have hcz62_1 : wr.cell? ⟨gb267, 1, none⟩ = some (.bool a0_1) := (blk_cell BK267.out 1).trans rfl
                have hcz62_2 : wr.cell? ⟨gb267, 2, none⟩ = some (.int .i64 a0_2) := (blk_cell BK267.out 2).trans rfl
                have hcz62_3 : wr.cell? ⟨gb267, 3, none⟩ = some (.slice A0_3 l0_3.length c0_3) := (blk_cell BK267.out 3).trans rfl
                have hcz62_4 : wr.cell? ⟨gb267, 4, none⟩ = some (.slice A0_4 l0_4.length c0_4) := (blk_cell BK267.out 4).trans rfl
                have hcz62_5 : wr.cell? ⟨gb267, 5, none⟩ = some (.slice A0_5 l0_5.length c0_5) := (blk_cell BK267.out 5).trans rfl
                have hfz62_0 := blk_frozen BK267.out 0
                have hfz62_1 := blk_frozen BK267.out 1
                have hfz62_2 := blk_frozen BK267.out 2
                have hfz62_3 := blk_frozen BK267.out 3
                have hfz62_4 := blk_frozen BK267.out 4
                have hfz62_5 := blk_frozen BK267.out 5
                have p273 : 0 ≤ (x7_4 : Int) := of_decide_eq_true (by first | (with_reducible assumption) | assumption)
                have q273 : x7_4 < (l0_5.length : Int) := of_decide_eq_true (by first | (with_reducible assumption) | assumption)
                obtain ⟨ad273, e273, hx273_0, hx273_1, hx273_2⟩ := at_T84 HR0_5.out x7_4 p273 q273
                cases e273
                replace hx273_0 := (HB.out.cell (World.block_lt_of_cell? w _ hx273_0)).trans hx273_0
                replace hx273_1 := (HB.out.cell (World.block_lt_of_cell? w _ hx273_1)).trans hx273_1
                replace hx273_2 := (HB.out.cell (World.block_lt_of_cell? w _ hx273_2)).trans hx273_2
                replace p273 := eq_true p273
                replace q273 := eq_true q273
                have hcz63_0 : wr.cell? ⟨gb268, 0, none⟩ = some (.string a1_0) := (blk_cell BK268.out 0).trans rfl
                have hcz63_1 : wr.cell? ⟨gb268, 1, none⟩ = some (.bool a1_1) := (blk_cell BK268.out 1).trans rfl
                have hcz63_2 : wr.cell? ⟨gb268, 2, none⟩ = some (.int .i64 a1_2) := (blk_cell BK268.out 2).trans rfl
                have hcz63_3 : wr.cell? ⟨gb268, 3, none⟩ = some (.slice A1_3 l1_3.length c1_3) := (blk_cell BK268.out 3).trans rfl
                have hcz63_4 : wr.cell? ⟨gb268, 4, none⟩ = some (.slice A1_4 l1_4.length c1_4) := (blk_cell BK268.out 4).trans rfl
                have hcz63_5 : wr.cell? ⟨gb268, 5, none⟩ = some (.slice A1_5 l1_5.length c1_5) := (blk_cell BK268.out 5).trans rfl
                have hfz63_0 := blk_frozen BK268.out 0
                have hfz63_1 := blk_frozen BK268.out 1
                have hfz63_2 := blk_frozen BK268.out 2
                have hfz63_3 := blk_frozen BK268.out 3
                have hfz63_4 := blk_frozen BK268.out 4
                have hfz63_5 := blk_frozen BK268.out 5
                have p274 : 0 ≤ (x7_4 : Int) := of_decide_eq_true (by first | (with_reducible assumption) | assumption)
                have q274 : x7_4 < (l1_5.length : Int) := of_decide_eq_true (by first | (with_reducible assumption) | assumption)
                obtain ⟨ad274, e274, hx274_0, hx274_1, hx274_2⟩ := at_T84 HR1_5.out x7_4 p274 q274
                cases e274
                replace hx274_0 := (HB.out.cell (World.block_lt_of_cell? w _ hx274_0)).trans hx274_0
                replace hx274_1 := (HB.out.cell (World.block_lt_of_cell? w _ hx274_1)).trans hx274_1
                replace hx274_2 := (HB.out.cell (World.block_lt_of_cell? w _ hx274_2)).trans hx274_2
                replace p274 := eq_true p274
                replace q274 := eq_true q274
                go_wp2
                repeat (go_quiet (fail); try go_wp2)
                go_roundg k4
                case measure => have := HJ2.out; have := HK2.out; have := HK3.out; have := HK4.out; omega
                case rel => exact ⟨(wrap64 (x7_4 + 1)), (by first | rfl | (simp; done) | (simp [*]; done)), H', ⟨by have := HJ2.out; have := HK2.out; have := HK3.out; have := HK4.out; omega⟩, ⟨by (with_reducible repeat (first | refine blk_drewN ?_ _ | refine blk_drew ?_ | refine blk_alloc ?_ _)); exact BK267.out⟩, ⟨by (with_reducible repeat (first | refine blk_drewN ?_ _ | refine blk_drew ?_ | refine blk_alloc ?_ _)); exact BK268.out⟩, ⟨by repeat (first | (with_reducible first | exact HB.out | apply below_alloc | apply pw_below_drewN | apply below_drew1 | refine below_set ?_ GE267.out | refine below_set ?_ GE268.out) | exact HB.out)⟩⟩
              ·rw [if_neg c56] at H
               exact absurd H (by simp)
             ·rw [if_neg c55] at H
              exact absurd H (by simp)
            ·rw [if_neg c54] at H
             have c54b0 : decide (x7_4 < (l0_5.length : Int)) = false := decide_eq_false c54
             clear c54
             obtain rfl := Option.some.inj H
             have hnb64 := NB267_268.out
             have hnc64 := NB268_267.out
             have hcz65_0 : wr.cell? ⟨gb267, 0, none⟩ = some (.string a0_0) := (blk_cell BK267.out 0).trans rfl
             have hcz65_1 : wr.cell? ⟨gb267, 1, none⟩ = some (.bool a0_1) := (blk_cell BK267.out 1).trans rfl
             have hcz65_2 : wr.cell? ⟨gb267, 2, none⟩ = some (.int .i64 a0_2) := (blk_cell BK267.out 2).trans rfl
             have hcz65_3 : wr.cell? ⟨gb267, 3, none⟩ = some (.slice A0_3 l0_3.length c0_3) := (blk_cell BK267.out 3).trans rfl
             have hcz65_4 : wr.cell? ⟨gb267, 4, none⟩ = some (.slice A0_4 l0_4.length c0_4) := (blk_cell BK267.out 4).trans rfl
             have hcz65_5 : wr.cell? ⟨gb267, 5, none⟩ = some (.slice A0_5 l0_5.length c0_5) := (blk_cell BK267.out 5).trans rfl
             have hfz65_0 := blk_frozen BK267.out 0
             have hfz65_1 := blk_frozen BK267.out 1
             have hfz65_2 := blk_frozen BK267.out 2
             have hfz65_3 := blk_frozen BK267.out 3
             have hfz65_4 := blk_frozen BK267.out 4
             have hfz65_5 := blk_frozen BK267.out 5
             go_wp2
             repeat (go_quiet (fail); try go_wp2)
             go_ret
             exact ⟨by first | rfl | (simp [errW_none, errW_some] <;> rfl) | (simp [*, errW_none, errW_some] <;> rfl), by repeat (first | (with_reducible first | exact HB.out | apply below_alloc | apply pw_below_drewN | apply below_drew1 | refine below_set ?_ GE267.out | refine below_set ?_ GE268.out) | exact HB.out)⟩
end Go.Proofs.YtaifemkokfoadaaGreatDoor.PX
