/-
  Glyphs without ligatures and kerns, set in one size and then in another one, are as set in that. No condition.
-/
import Derived.Test.YtggifbbiiickmaaGreatDoorRows
import Derived.Test.YtggifbbiiickmaaGreatDoorCards
import Derived.Test.YtggifbbiiickmaaGreatDoorTie
import Derived.Test.YtggifbbiiickmaaGreatDoorGMV1
import Derived.Test.YtggifbbiiickmaaGreatDoorGMV4
import Derived.SevenTiedAt
import Derived.Stop.Joined
namespace Go.Proofs.YtggifbbiiickmaaGreatDoor.lawGlyphMoves
open Go.ChangeShapes Go.WideShapes Go.ChangeAt Go.RowKit
open Go.ChangeMaps (open_string shut_string)

theorem own : ownKnob Tryz.prog.godebug = none := by kernel_rfl
theorem laidOut : laidOutB Tryz.prog = true := by kernel_rfl
def laid : List (String × DataW Unit) := Rows.glyphMovesRow.laid

set_option maxRecDepth 100000 in
theorem witnessed (os : Os) (H : Type) (enc : TypeId × Value → H) :
    ∃ (w : World) (tape : Tape) (i : Input), w.os = os ∧ (w.forCall tape i).Shaped Tryz.prog ∧ i.vars = [] ∧ Input.okWide Tryz.prog (w.forCall tape i) .any w.heap.size 8 i ∧
      ((Rows.glyphMovesSpec.pre enc Tryz.prog Tryz.f8 [] false (w.forCall tape i).memory i.args ∧ laidMetH Tryz.prog laid (w.forCall tape i).memory) ∧ sizedMet enc Tryz.prog Tryz.f8 (OpenSpec.ofChange Rows.glyphMovesSpec) false (w.forCall tape i).memory i.args) ∧ ({} : Assume).holds Tryz.prog (lone (Frame.enter Tryz.prog 8 i.args .normal) [] (w.forCall tape i)) :=
  ChangeSpec.witness_shaped (enc := enc) (C := Tryz.checked) (os := os) (X := fun w _ => laidMetH Tryz.prog laid w) false (World.laidAll Tryz.prog os laid) #[.agg #[.string ⟨#[]⟩, .int .u8 0, .int .u8 0, .int .u8 0]] 8 (World.laidAll_os _ _ _)
    (World.shaped_of_ZipB (by kernel_rfl) (by kernel_rfl)) (by kernel_rfl) (by kernel_rfl) (by kernel_rfl)
    (by rw [MakeChecks.laidMetH_plain _ _ _ (by kernel_rfl)]; exact laidMet_laidAll _ (by kernel_rfl) (by kernel_rfl))

set_option maxRecDepth 100000 in
theorem lifted (os : Os) (started : os.Started) (H : Type) (enc : TypeId × Value → H) :
    ReturnsInHanded {} Tryz.checked os 8 .any (fun w args => (Rows.glyphMovesSpec.pre enc Tryz.prog Tryz.f8 [] false w args ∧ laidMetH Tryz.prog laid w) ∧ sizedMet enc Tryz.prog Tryz.f8 (OpenSpec.ofChange Rows.glyphMovesSpec) false w args)
      (Rows.glyphMovesSpec.post enc Tryz.prog Tryz.f8 false true false false) := by
  refine oh (C := Tryz.checked) (tb := 4) (X := fun w _ => laidMetH Tryz.prog laid w) (fun _ _ _ hh h => h.of_heap hh) own started (by kernel_rfl) Tryz.func8 (witnessed os H enc) laidOut ?_ (by kernel_rfl) Tryz.underlying4 ?_ ?_
  · refine ⟨rfl, fun H ds hd => ?_⟩
    rw [Tryz.params8] at hd
    match ds, hd with
    | [_], _ => exact ⟨rfl, rfl, rfl⟩
  · intro t ht
    rw [Tryz.params8] at ht
    simp only [List.mem_cons, List.mem_nil_iff, or_false] at ht
    subst ht; exact ⟨by kernel_rfl, of_decide_eq_true (by kernel_rfl)⟩
  · intro W base args ds ps hval hA hwt hX hsh
    rw [Tryz.params8] at hA hval hwt
    exact (by
      obtain ⟨v0, d0, p0, rfl, rfl, h0⟩ := zqH hA
      have hL : laidMet Tryz.prog laid W := by
        have h := hX
        rw [MakeChecks.laidMetH_plain _ _ _ (by kernel_rfl)] at h
        exact h
      have hG : GW W := zZo hL hsh (.tail _ (.tail _ (.head _))) (.tail _ (.tail _ (.tail _ (.tail _ (.tail _ (.head _)))))) (.tail _ (.tail _ (.tail _ (.tail _ (.head _))))) (.tail _ (.tail _ (.tail _ (.tail _ (.tail _ (.tail _ (.tail _ (.head _))))))))
      obtain ⟨s, a, b, c, rfl, ⟨ha0, ha1⟩, ⟨hb0, hb1⟩, ⟨hc0, hc1⟩⟩ := zzA (hval 0 69 v0 rfl rfl) h0
      exact nV s a b c W hG ha0 ha1 hb0 hb1 hc0 hc1)

theorem row_holds : Rows.GlyphMovesSaid :=
  OpenClaim.holds_of_wide 8 Tryz.f8 rfl rfl rfl rfl rfl rfl rfl ⟨rfl, rfl, rfl, rfl, rfl⟩ rfl rfl rfl rfl rfl (by kernel_rfl) Tryz.func8 (by kernel_rfl)
    (of_decide_eq_true (by kernel_rfl)) (by unfold Func.isWrapper; first | (rw [if_pos (by decide +kernel)]; kernel_rfl) | (rw [if_neg (by decide +kernel)]; exact ⟨rfl, rfl⟩))
    (fun os started H enc _ => lifted os started H enc)

theorem holds : Rows.GlyphMovesCardSaid :=
  Claim7.holds_tied_plain_at .later [] [.data, .data, .data, .data, .sentinel, .sentinel, .listed, .data, .pinned] true (true, "cc336b560cdcfa937047064353d746ac4b4848303162e16556e3f198854a1200") true
    row_holds (fun _ h => by cases h) (by kernel_rfl) (fun _ h => by cases h) glyphMoves_row_tie rfl ⟨rfl, rfl⟩ (by kernel_rfl) rfl
    (fun f fn hf hfn => by
      obtain rfl : f = 8 := Option.some.inj ((show Tryz.prog.funcNamed "frisket/frisketlaw08.GlyphMoves" = some 8 by kernel_rfl).symm.trans hf) |>.symm
      obtain rfl : fn = Tryz.f8 := (Option.some.inj (Tryz.func8.symm.trans hfn)).symm
      exact ⟨by kernel_rfl, fun j t ht => by
        rw [Tryz.params8] at ht
        have hm : t ∈ [69] := by simpa using Array.mem_of_getElem? ht
        have hall : ([69].all fun u => !Tryz.prog.wantsStandIn u) = true := by kernel_rfl
        exact (show Tryz.prog.wantsStandIn t = false by simpa using List.all_eq_true.1 hall t hm)⟩)
    (by kernel_rfl)
#print axioms holds
end Go.Proofs.YtggifbbiiickmaaGreatDoor.lawGlyphMoves
