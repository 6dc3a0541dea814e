/-
  Texts that lean on one another, laid in one file. No condition.
-/
import Derived.Test.YtaifemkokfoadaaGreatDoorGST1
import Derived.Test.YtaifemkokfoadaaGreatDoorGST3
import Derived.Test.YtaifemkokfoadaaGreatDoorGST2
import Derived.Test.YtaifemkokfoadaaGreatDoorGST4
import Derived.Deep.RegionHeld3
import Derived.Test.YtaifemkokfoadaaGreatDoorWWords
import Derived.Deep.Slices
import Derived.ChangeArms
import Derived.ChangeSlices
import Derived.SizedLaws
import Derived.WideShapes
import Derived.Lib.LaidU8
import Derived.Shelf.Vars
namespace Go.Proofs.YtaifemkokfoadaaGreatDoor
open Go.RowKit Go.Shelf Go.Proofs.YtaifemkokfoadaaGreatDoorW.PrintWords Go.Proofs.YtaifemkokfoadaaGreatDoorW.PrintLast Go.Proofs.YtaifemkokfoadaaGreatDoorW.PrintMore Go.Proofs.YtaifemkokfoadaaGreatDoor.PX
set_option linter.unusedSimpArgs false
set_option linter.unusedVariables false
set_option maxRecDepth 100000
def cpaF (x : S26) : S44 := ⟨x.f0, x.f1, x.f2, x.f3.map cpaG, x.f4.map cpaL, x.f5.map cpaK⟩
theorem refStd : frisketref07_Standard.f 1000 = some (stdV.map cpaF) := by kernel_rfl
def sameP (x : S26) : Option Bool := font_Same.f 1000 x.f0 x.f1 x.f2 x.f3 x.f4 x.f5 x.f0 x.f1 x.f2 x.f3 x.f4 x.f5
def stdOk (x : S26) : Bool := sameP x == some true && validV x.f0 x.f2 x.f3 x.f4 x.f5 && decide (x.f3.length ≤ 1000) && decide (x.f4.length ≤ 1000) && decide (x.f5.length ≤ 1000)
theorem stdOks : stdV.all stdOk = true := by kernel_rfl
theorem cpbaG (l : List S31) : (l.map cpaG).map cpbG = l := by rw [List.map_map]; exact (List.map_congr_left (fun x _ => rfl)).trans (List.map_id l)
theorem cpbaL (l : List S86) : (l.map cpaL).map cpbL = l := by rw [List.map_map]; exact (List.map_congr_left (fun x _ => rfl)).trans (List.map_id l)
theorem cpbaK (l : List S76) : (l.map cpaK).map cpbK = l := by rw [List.map_map]; exact (List.map_congr_left (fun x _ => rfl)).trans (List.map_id l)
set_option maxHeartbeats 8000000 in
theorem std_law (w : World) (hG : GW w) : Calls Tryz.prog 4 #[] w fun e w' => e = .returned (.bool true) ∧ Below w.heap.size w w' := by
  have h5 : stdV.length = 5 := rfl
  have h1 := font_Standard.calls stdV w hG rfl
  have h2 : ∀ W, Calls Tryz.prog 14 #[] W _ := fun W => frisketref07_Standard.calls 1000 (stdV.map cpaF) W refStd
  have hok : ∀ x ∈ stdV, stdOk x = true := List.all_eq_true.1 stdOks
  have HOK := Aside0.mk hok
  clear hok
  generalize stdV = L at h1 h2 h5 HOK
  go_enter Tryz.func4, Tryz.ntmps4
  go_wp2_with fail
  refine h1.mono ?_; rintro e w1 ⟨v, rfl, ho, hb⟩
  obtain ⟨Ao, co, eo⟩ := Kd.S_slice ho
  subst eo
  have hC := (Kd.S_reads' ho).2.2
  clear h1 ho
  go_wp2_with fail
  refine (h2 _).mono ?_; rintro e w2 ⟨v, rfl, ho, hb2⟩
  obtain ⟨Bo, bo, eo⟩ := Kd.N_slice ho
  subst eo
  have hD := (Kd.N_reads' ho).2.2
  have hC2 := Kd.C_below hC hb2
  have hw2 := hb.trans (hb2.mono hb.size)
  have hG2 := hG.under hw2
  have h6 : (L.map cpaF).length = 5 := by rw [List.length_map]; exact h5
  clear hC ho h2 hb hb2 hG
  go_wp2_with fail
  go_loopw [3] (fun y W => ∃ i : Nat, y = .int .i64 (i : Int) ∧ i ≤ 5 ∧ Aside0 (Below w2.heap.size w2 W)) (fun y _ => 5 - (intOf y).toNat)
  case atStart => exact ⟨0, rfl, Nat.zero_le _, ⟨Below.refl _ _⟩⟩
  case round =>
    obtain ⟨i, rfl, hi, HB⟩ := hrel
    by_cases hlt : i < 5
    · obtain ⟨ad, A3, c3, A4, c4, A5, c5, e, x0, x1, x2, x3, x4, x5, l3, r3, l4, r4, l5, r5⟩ := at_T26 (Kd.C_below hC2 HB.out) (i : Int) (by omega) (by omega)
      cases e
      obtain ⟨bd, B3, b3, B4, b4, B5, b5, e, y0, y1, y2, y3, y4, y5, m3, s3, m4, s4, m5, s5⟩ := at_T44 (Kd.C_below hD HB.out) (i : Int) (by omega) (by omega)
      cases e
      have hli : i < L.length := by omega
      have e1 : rd_T26 L (i : Int) = L[i] := by simp [rd_T26, List.getD_eq_getElem?_getD, hli]
      have e2 : rd_T44 (L.map cpaF) (i : Int) = cpaF L[i] := by simp [rd_T44, List.getD_eq_getElem?_getD, hli]
      have hx := HOK.out _ (List.getElem_mem hli)
      rw [Int.toNat_natCast] at x0 x1 x2 x3 x4 x5 y0 y1 y2 y3 y4 y5
      rw [e1] at x0 x1 x2 x3 x4 x5 l3 r3 l4 r4 l5 r5
      rw [e2] at y0 y1 y2 y3 y4 y5 m3 s3 m4 s4 m5 s5
      generalize L[i] = x at x0 x1 x2 x3 x4 x5 l3 r3 l4 r4 l5 r5 y0 y1 y2 y3 y4 y5 m3 s3 m4 s4 m5 s5 hx
      simp only [cpaF] at y0 y1 y2 y3 y4 y5 m3 s3 m4 s4 m5 s5
      unfold stdOk at hx
      simp only [Bool.and_eq_true, beq_iff_eq, decide_eq_true_eq] at hx
      obtain ⟨⟨⟨⟨hsp, hvv⟩, n3⟩, n4⟩, n5⟩ := hx
      obtain ⟨kp, hsp⟩ : ∃ k, font_Same.f k x.f0 x.f1 x.f2 x.f3 x.f4 x.f5 x.f0 x.f1 x.f2 x.f3 x.f4 x.f5 = some true := ⟨1000, hsp⟩
      have HSP := Aside0.mk hsp
      have HVV : Aside0 (font_Valid.f x.f0 x.f1 x.f2 x.f3 x.f4 x.f5 = some true) := ⟨by unfold font_Valid.f; rw [if_pos ⟨by omega, by omega, by omega⟩, hvv]⟩
      have HR3 := Aside0.mk (fun (W : World) (h : Below wr.heap.size wr W) => Kd.C_below r3 h)
      have HR4 := Aside0.mk (fun (W : World) (h : Below wr.heap.size wr W) => Kd.C_below r4 h)
      have HR5 := Aside0.mk (fun (W : World) (h : Below wr.heap.size wr W) => Kd.C_below r5 h)
      have HS3 := Aside0.mk (fun (W : World) (h : Below wr.heap.size wr W) => Kd.C_below s3 h)
      have HS4 := Aside0.mk (fun (W : World) (h : Below wr.heap.size wr W) => Kd.C_below s4 h)
      have HS5 := Aside0.mk (fun (W : World) (h : Below wr.heap.size wr W) => Kd.C_below s5 h)
      have N3 := Aside0.mk l3; have N4 := Aside0.mk l4; have N5 := Aside0.mk l5; have M3 := Aside0.mk m3; have M4 := Aside0.mk m4; have M5 := Aside0.mk m5
      have HGR := Aside0.mk (hG2.under HB.out)
      clear r3 r4 r5 s3 s4 s5 l3 l4 l5 m3 m4 m5 hsp hvv e1 e2
      obtain ⟨n3', hn3⟩ : ∃ m, m = x.f3.map cpaG := ⟨_, rfl⟩
      obtain ⟨n4', hn4⟩ : ∃ m, m = x.f4.map cpaL := ⟨_, rfl⟩
      obtain ⟨n5', hn5⟩ : ∃ m, m = x.f5.map cpaK := ⟨_, rfl⟩
      have hz3 : n3'.length ≤ 1000 := by rw [hn3, List.length_map]; exact n3
      have hz4 : n4'.length ≤ 1000 := by rw [hn4, List.length_map]; exact n4
      have hz5 : n5'.length ≤ 1000 := by rw [hn5, List.length_map]; exact n5
      rw [← hn3] at y3
      rw [← hn4] at y4
      rw [← hn5] at y5
      rw [← hn3] at HS3 M3
      rw [← hn4] at HS4 M4
      rw [← hn5] at HS5 M5
      have HN3 := Aside0.mk hn3; have HN4 := Aside0.mk hn4; have HN5 := Aside0.mk hn5
      have hS : ∀ W, Below wr.heap.size wr W → W.cell? (ad.add (i * 6)) = some (.string x.f0) ∧ W.cell? ⟨(ad.add (i * 6)).block, (ad.add (i * 6)).off + 1, none⟩ = some (.bool x.f1) ∧ W.cell? ⟨(ad.add (i * 6)).block, (ad.add (i * 6)).off + 2, none⟩ = some (.int .i64 x.f2) ∧ W.cell? ⟨(ad.add (i * 6)).block, (ad.add (i * 6)).off + 3, none⟩ = some (.slice A3 x.f3.length c3) ∧ W.cell? ⟨(ad.add (i * 6)).block, (ad.add (i * 6)).off + 4, none⟩ = some (.slice A4 x.f4.length c4) ∧ W.cell? ⟨(ad.add (i * 6)).block, (ad.add (i * 6)).off + 5, none⟩ = some (.slice A5 x.f5.length c5) ∧ W.cell? (bd.add (i * 6)) = some (.string x.f0) ∧ W.cell? ⟨(bd.add (i * 6)).block, (bd.add (i * 6)).off + 1, none⟩ = some (.bool x.f1) ∧ W.cell? ⟨(bd.add (i * 6)).block, (bd.add (i * 6)).off + 2, none⟩ = some (.int .i64 x.f2) ∧ W.cell? ⟨(bd.add (i * 6)).block, (bd.add (i * 6)).off + 3, none⟩ = some (.slice B3 n3'.length b3) ∧ W.cell? ⟨(bd.add (i * 6)).block, (bd.add (i * 6)).off + 4, none⟩ = some (.slice B4 n4'.length b4) ∧ W.cell? ⟨(bd.add (i * 6)).block, (bd.add (i * 6)).off + 5, none⟩ = some (.slice B5 n5'.length b5) := fun W h => ⟨(h.cell (World.block_lt_of_cell? wr _ x0)).trans x0, (h.cell (World.block_lt_of_cell? wr _ x1)).trans x1, (h.cell (World.block_lt_of_cell? wr _ x2)).trans x2, (h.cell (World.block_lt_of_cell? wr _ x3)).trans x3, (h.cell (World.block_lt_of_cell? wr _ x4)).trans x4, (h.cell (World.block_lt_of_cell? wr _ x5)).trans x5, (h.cell (World.block_lt_of_cell? wr _ y0)).trans y0, (h.cell (World.block_lt_of_cell? wr _ y1)).trans y1, (h.cell (World.block_lt_of_cell? wr _ y2)).trans y2, (h.cell (World.block_lt_of_cell? wr _ y3)).trans y3, (h.cell (World.block_lt_of_cell? wr _ y4)).trans y4, (h.cell (World.block_lt_of_cell? wr _ y5)).trans y5⟩
      have HS := Aside0.mk hS
      clear hS
      have q1 : (i : Int) < 5 := by omega
      have q2 : decide ((i : Int) < 5) = true := decide_eq_true q1
      have q3 : ((i : Int)).toNat = i := Int.toNat_natCast i
      have q0 : (0 : Int) ≤ (i : Int) := by omega
      clear hli hn3 hn4 hn5
      go_wp2_with fail
      go_region_held3 (fun W => W.cell? (ad.add (i * 6)) = some (.string x.f0) ∧ W.cell? ⟨(ad.add (i * 6)).block, (ad.add (i * 6)).off + 1, none⟩ = some (.bool x.f1) ∧ W.cell? ⟨(ad.add (i * 6)).block, (ad.add (i * 6)).off + 2, none⟩ = some (.int .i64 x.f2) ∧ W.cell? ⟨(ad.add (i * 6)).block, (ad.add (i * 6)).off + 3, none⟩ = some (.slice A3 x.f3.length c3) ∧ W.cell? ⟨(ad.add (i * 6)).block, (ad.add (i * 6)).off + 4, none⟩ = some (.slice A4 x.f4.length c4) ∧ W.cell? ⟨(ad.add (i * 6)).block, (ad.add (i * 6)).off + 5, none⟩ = some (.slice A5 x.f5.length c5) ∧ W.cell? (bd.add (i * 6)) = some (.string x.f0) ∧ W.cell? ⟨(bd.add (i * 6)).block, (bd.add (i * 6)).off + 1, none⟩ = some (.bool x.f1) ∧ W.cell? ⟨(bd.add (i * 6)).block, (bd.add (i * 6)).off + 2, none⟩ = some (.int .i64 x.f2) ∧ W.cell? ⟨(bd.add (i * 6)).block, (bd.add (i * 6)).off + 3, none⟩ = some (.slice B3 n3'.length b3) ∧ W.cell? ⟨(bd.add (i * 6)).block, (bd.add (i * 6)).off + 4, none⟩ = some (.slice B4 n4'.length b4) ∧ W.cell? ⟨(bd.add (i * 6)).block, (bd.add (i * 6)).off + 5, none⟩ = some (.slice B5 n5'.length b5)) (first | exact HS.out _ HE1.out | exact HS.out _ HD1.out | exact HS.out _ HC1.out | exact HS.out _ HB1.out | exact HS.out _ HA1.out | exact HS.out _ (Below.refl _ _).drew) (first | (go_at_call 16; refine (cpa_any x.f0 x.f1 x.f2 A3 c3 x.f3 A4 c4 x.f4 A5 c5 x.f5 _ (HR3.out _ (Below.refl _ _).drew) (HR4.out _ (Below.refl _ _).drew) (HR5.out _ (Below.refl _ _).drew) (by omega) (by omega) (by omega)).mono ?_; rintro e wA ⟨v3, v4, v5, rfl, RA3, RA4, RA5, hA⟩; rw [← HN3.out] at RA3; rw [← HN4.out] at RA4; rw [← HN5.out] at RA5; obtain ⟨P3, p3, e3⟩ := Kd.R_slice RA3; subst e3; obtain ⟨P4, p4, e4⟩ := Kd.R_slice RA4; subst e4; obtain ⟨P5, p5, e5⟩ := Kd.R_slice RA5; subst e5; have QA := Aside0.mk (Kd.R_reads' RA3); have QB := Aside0.mk (Kd.R_reads' RA4); have QC := Aside0.mk (Kd.R_reads' RA5); have HA1 : Aside0 (Below wr.heap.size wr wA) := ⟨((Below.refl _ _).drew).trans (hA.mono (Nat.le_refl _))⟩; clear RA3 RA4 RA5 hA) | (go_at_call 15; refine (rsame_refl x.f0 x.f1 x.f2 P3 p3 n3' P4 p4 n4' P5 p5 n5' B3 b3 B4 b4 B5 b5 wA QA.out.2.2 QB.out.2.2 QC.out.2.2 (HS3.out _ HA1.out) (HS4.out _ HA1.out) (HS5.out _ HA1.out) (by omega) (by omega) (by omega)).mono ?_; rintro e wB ⟨rfl, hB⟩; have HB1 : Aside0 (Below wr.heap.size wr wB) := ⟨HA1.out.trans (hB.mono HA1.out.size)⟩; clear hB) | (go_at_call 17; refine (font_Valid.calls x.f0 x.f1 x.f2 A3 c3 x.f3 A4 c4 x.f4 A5 c5 x.f5 true wB (HR3.out _ HB1.out) N3.out (HR4.out _ HB1.out) N4.out (HR5.out _ HB1.out) N5.out (HGR.out.under HB1.out) HVV.out).mono ?_; rintro e wC ⟨rfl, hC0⟩; have HC1 : Aside0 (Below wr.heap.size wr wC) := ⟨HB1.out.trans (hC0.mono HB1.out.size)⟩; clear hC0) | (go_at_call 19; refine (cpb_any x.f0 x.f1 x.f2 B3 b3 n3' B4 b4 n4' B5 b5 n5' wC (HS3.out _ HC1.out) (HS4.out _ HC1.out) (HS5.out _ HC1.out) (by omega) (by omega) (by omega)).mono ?_; rintro e wD ⟨v3, v4, v5, rfl, RD3, RD4, RD5, hD0⟩; rw [HN3.out, cpbaG] at RD3; rw [HN4.out, cpbaL] at RD4; rw [HN5.out, cpbaK] at RD5; obtain ⟨U3, u3, e3⟩ := Kd.R_slice RD3; subst e3; obtain ⟨U4, u4, e4⟩ := Kd.R_slice RD4; subst e4; obtain ⟨U5, u5, e5⟩ := Kd.R_slice RD5; subst e5; have QD := Aside0.mk (Kd.R_reads' RD3); have QE := Aside0.mk (Kd.R_reads' RD4); have QF := Aside0.mk (Kd.R_reads' RD5); have HD1 : Aside0 (Below wr.heap.size wr wD) := ⟨HC1.out.trans (hD0.mono HC1.out.size)⟩; clear RD3 RD4 RD5 hD0) | (go_at_call 18; refine (font_Same.calls kp x.f0 x.f1 x.f2 A3 c3 x.f3 A4 c4 x.f4 A5 c5 x.f5 x.f0 x.f1 x.f2 U3 u3 x.f3 U4 u4 x.f4 U5 u5 x.f5 true wD (HR3.out _ HD1.out) N3.out (HR4.out _ HD1.out) N4.out (HR5.out _ HD1.out) N5.out QD.out.2.2 QD.out.2.1 QE.out.2.2 QE.out.2.1 QF.out.2.2 QF.out.2.1 HSP.out).mono ?_; rintro e wE ⟨rfl, hE⟩; have HE1 : Aside0 (Below wr.heap.size wr wE) := ⟨HD1.out.trans (hE.mono HD1.out.size)⟩; clear hE))
      have hE2 := HB.out.trans (HE1.out.mono HB.out.size)
      clear HS HR3 HR4 HR5 HS3 HS4 HS5
      go_wp2_with fail
      go_roundw
      case rel => exact ⟨i + 1, by first | rfl | (simp; done) | go_num, by omega, ⟨hE2⟩⟩
      case measure => simp [intOf]; omega
    · obtain rfl : i = 5 := by omega
      have hend := hw2.trans (HB.out.mono hw2.size)
      have c1 := frisketlaw07_sane.calls true wr (hG2.under HB.out) sane_ev
      go_wp2_with fail
      refine c1.mono ?_; rintro e w7 ⟨rfl, hb9⟩
      go_wp2_with fail
      go_ret
      exact ⟨rfl, hend.trans (hb9.mono hend.size)⟩
end Go.Proofs.YtaifemkokfoadaaGreatDoor

namespace Go.Proofs.YtaifemkokfoadaaGreatDoor
open Go.ChangeShapes Go.WideShapes Go.RowKit Go.Deep Go.Proofs.YtaifemkokfoadaaGreatDoorW.PrintWords
section
variable {H : Type} {enc : TypeId × Value → H} {P : Program} {w : World} {sp : Nat → Bool} {held : Bool} {α : Type}
end
end Go.Proofs.YtaifemkokfoadaaGreatDoor

namespace Go.Proofs.YtaifemkokfoadaaGreatDoor
open Go.RowKit Go.ChangeShapes Go.WideShapes Go.Proofs.YtaifemkokfoadaaGreatDoorW.PrintWords
theorem iface_of_laid {P : Program} {w : World} {l : List (String × DataW Unit)} {n nm : String} {d : DataW Unit} {g : Nat} {t : TypeId} {ms : Array (String × TypeId)} (h : laidMet P l w) (hm : (n, .iface nm d) ∈ l)
    (hg : P.globalNamed n = some g) (ht : (P.globals[g]?).map (·.type) = some t) (hu : P.underlying t = some (.interface ms)) : ∃ tp p, w.var? P n = some #[.iface tp p] := by
  obtain ⟨g', t', cs, fuel, p, e1, e2, e3, e4⟩ := Lib.laidMet.reads h hm
  obtain rfl : g' = g := Option.some.inj (e1.symm.trans hg)
  obtain rfl : t' = t := Option.some.inj (e2.symm.trans ht)
  cases fuel with
  | zero => simp [DataW.trod] at e4
  | succ k =>
    unfold DataW.trod at e4
    rw [hu] at e4
    obtain ⟨cl⟩ := cs
    rw [e3]
    match cl, e4 with
    | [], e4 => simp at e4
    | [v], e4 =>
      cases v <;> simp at e4
      exact ⟨_, _, rfl⟩
    | _ :: _ :: _, e4 => simp at e4
theorem gw_of {W : World} {l : List (String × DataW Unit)} {ds : DataW Unit} {dr : DataW Unit} {n1 n2 : String} (h : laidMet Tryz.prog l W) (hsh : W.ShapedOpen Tryz.prog) (h1 : ("internal/strconv.uint64pow10", Lib.tabData .u64 Lib.pow10Tab) ∈ l) (h2 : ("strconv.ErrSyntax", .iface n1 ds) ∈ l) (h3 : ("strconv.ErrRange", .iface n2 dr) ∈ l) (h4 : ("strings.asciiSpace", Lib.tabData .u8 Lib.asciiSpaceTab) ∈ l) : GW W := by
  have htab : Lib.TabIs Tryz.prog W "internal/strconv.uint64pow10" .u64 Lib.pow10Tab := tabIs_of_laid (g := 7) (t := 244) (e := 186) (n := 20) (by kernel_rfl) (by kernel_rfl) Tryz.underlying244 Tryz.underlying186 (by kernel_rfl) (by kernel_rfl) h h1
  have hspc : Lib.TabIs Tryz.prog W "strings.asciiSpace" .u8 Lib.asciiSpaceTab := tabIs_of_laid (g := 0) (t := 140) (e := 5) (n := 256) (by kernel_rfl) (by kernel_rfl) Tryz.underlying140 Tryz.underlying5 (by kernel_rfl) (by kernel_rfl) h h4
  refine ⟨htab, iface_of_laid (g := 3) h h2 (by kernel_rfl) (t := 131) (by kernel_rfl) Tryz.underlying131, iface_of_laid (g := 4) h h3 (by kernel_rfl) (t := 131) (by kernel_rfl) Tryz.underlying131, hspc,
    cell_of_shapedOpen_int (t := 3) (zero := #[.int .i64 0]) hsh (of_decide_eq_true (by kernel_rfl)) (by kernel_rfl) rfl (by kernel_rfl) (by kernel_rfl) Tryz.underlying3, ?_⟩
  obtain ⟨o, _, h4, _⟩ := hsh.2 11 (of_decide_eq_true (by kernel_rfl)) (of_decide_eq_true (by kernel_rfl))
  rcases Nat.lt_or_ge 11 W.heap.size with h5 | h5
  · omega
  · rw [Array.getElem?_eq_none h5] at h4; cases h4
end Go.Proofs.YtaifemkokfoadaaGreatDoor
