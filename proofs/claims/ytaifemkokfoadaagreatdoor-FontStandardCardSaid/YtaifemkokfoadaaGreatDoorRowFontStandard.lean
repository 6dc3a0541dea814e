/-
  The standard fonts are the document's (P7.1), and valid: FontStandard is true. No condition.
-/
import Derived.Test.YtaifemkokfoadaaGreatDoorRows
import Derived.Test.YtaifemkokfoadaaGreatDoorCards
import Derived.Test.YtaifemkokfoadaaGreatDoorTie
import Derived.Test.YtaifemkokfoadaaGreatDoorGST1
import Derived.Test.YtaifemkokfoadaaGreatDoorGST5
import Derived.SevenTiedAt
import Derived.Stop.Joined
namespace Go.Proofs.YtaifemkokfoadaaGreatDoor.lawFontStandard
open Go.ChangeShapes Go.WideShapes Go.ChangeAt Go.RowKit
open Go.ChangeMaps (open_string shut_string)

theorem own : ownKnob Tryz.prog.godebug = none := by kernel_rfl
theorem laidOut : laidOutB Tryz.prog = true := by kernel_rfl
def laid : List (String × DataW Unit) := Rows.fontStandardRow.laid

set_option maxRecDepth 100000 in
theorem witnessed (os : Os) (H : Type) (enc : TypeId × Value → H) :
    ∃ (w : World) (tape : Tape) (i : Input), w.os = os ∧ (w.forCall tape i).Shaped Tryz.prog ∧ i.vars = [] ∧ Input.okWide Tryz.prog (w.forCall tape i) .any w.heap.size 4 i ∧
      ((Rows.fontStandardSpec.pre enc Tryz.prog Tryz.f4 [] false (w.forCall tape i).memory i.args ∧ laidMetH Tryz.prog laid (w.forCall tape i).memory) ∧ sizedMet enc Tryz.prog Tryz.f4 (OpenSpec.ofChange Rows.fontStandardSpec) false (w.forCall tape i).memory i.args) ∧ ({} : Assume).holds Tryz.prog (lone (Frame.enter Tryz.prog 4 i.args .normal) [] (w.forCall tape i)) :=
  ChangeSpec.witness_shaped (enc := enc) (C := Tryz.checked) (os := os) (X := fun w _ => laidMetH Tryz.prog laid w) false (World.laidAll Tryz.prog os laid) #[] 8 (World.laidAll_os _ _ _)
    (World.shaped_of_ZipB (by kernel_rfl) (by kernel_rfl)) (by kernel_rfl) (by kernel_rfl) (by kernel_rfl)
    (by rw [MakeChecks.laidMetH_plain _ _ _ (by kernel_rfl)]; exact laidMet_laidAll _ (by kernel_rfl) (by kernel_rfl))

set_option maxRecDepth 100000 in
theorem lifted (os : Os) (started : os.Started) (H : Type) (enc : TypeId × Value → H) :
    ReturnsInHanded {} Tryz.checked os 4 .any (fun w args => (Rows.fontStandardSpec.pre enc Tryz.prog Tryz.f4 [] false w args ∧ laidMetH Tryz.prog laid w) ∧ sizedMet enc Tryz.prog Tryz.f4 (OpenSpec.ofChange Rows.fontStandardSpec) false w args)
      (Rows.fontStandardSpec.post enc Tryz.prog Tryz.f4 false true false false) := by
  refine law_lifted (C := Tryz.checked) (tb := 4) (X := fun w _ => laidMetH Tryz.prog laid w) (fun _ _ _ hh h => h.of_heap hh) own started (by kernel_rfl) Tryz.func4 (witnessed os H enc) laidOut ?_ (by kernel_rfl) Tryz.underlying4 ?_ ?_
  · refine ⟨rfl, fun H ds hd => ?_⟩
    rw [Tryz.params4] at hd
    obtain rfl : ds = [] := List.eq_nil_of_length_eq_zero hd
    exact ⟨rfl, rfl, rfl⟩
  · intro t ht
    rw [Tryz.params4] at ht
    exact absurd ht List.not_mem_nil
  · intro W base args ds ps hval hA hwt hX hsh
    rw [Tryz.params4] at hA hval hwt
    exact (by
      obtain ⟨e0, rfl, rfl⟩ := trodAll_nil hA
      obtain rfl : args = #[] := by cases args; simp_all
      have hL : laidMet Tryz.prog laid W := by
        have h := hX
        rw [MakeChecks.laidMetH_plain _ _ _ (by kernel_rfl)] at h
        exact h
      have hG : GW W := gw_of hL hsh (.tail _ (.tail _ (.head _))) (.tail _ (.tail _ (.tail _ (.tail _ (.tail _ (.head _)))))) (.tail _ (.tail _ (.tail _ (.tail _ (.head _))))) (.tail _ (.tail _ (.tail _ (.tail _ (.tail _ (.tail _ (.tail _ (.head _))))))))
      exact std_law W hG)

theorem row_holds : Rows.FontStandardSaid :=
  OpenClaim.holds_of_wide 4 Tryz.f4 rfl rfl rfl rfl rfl rfl rfl ⟨rfl, rfl, rfl, rfl, rfl⟩ rfl rfl rfl rfl rfl (by kernel_rfl) Tryz.func4 (by kernel_rfl)
    (of_decide_eq_true (by kernel_rfl)) (by unfold Func.isWrapper; first | (rw [if_pos (by decide +kernel)]; kernel_rfl) | (rw [if_neg (by decide +kernel)]; exact ⟨rfl, rfl⟩))
    (fun os started H enc _ => lifted os started H enc)

theorem holds : Rows.FontStandardCardSaid :=
  Claim7.holds_tied_plain_at .later [] [.data, .data, .data, .data, .sentinel, .sentinel, .listed, .data, .pinned] true (true, "6ddb8766e40130a38551bf6624c057b29a9eb359b48b33ef66c4056b53609c86") true
    row_holds (fun _ h => by cases h) (by kernel_rfl) (fun _ h => by cases h) fontStandard_row_tie rfl ⟨rfl, rfl⟩ (by kernel_rfl) rfl
    (fun f fn hf hfn => by
      obtain rfl : f = 4 := Option.some.inj ((show Tryz.prog.funcNamed "frisket/frisketlaw07.FontStandard" = some 4 by kernel_rfl).symm.trans hf) |>.symm
      obtain rfl : fn = Tryz.f4 := (Option.some.inj (Tryz.func4.symm.trans hfn)).symm
      exact ⟨by kernel_rfl, fun j t ht => by
        rw [Tryz.params4] at ht
        have hm : t ∈ [] := by simpa using Array.mem_of_getElem? ht
        have hall : ([].all fun u => !Tryz.prog.wantsStandIn u) = true := by kernel_rfl
        exact (show Tryz.prog.wantsStandIn t = false by simpa using List.all_eq_true.1 hall t hm)⟩)
    (by kernel_rfl)
#print axioms holds
end Go.Proofs.YtaifemkokfoadaaGreatDoor.lawFontStandard
