/-
  The statement TitleBack: Parts of Write are the parts, and what cannot be written is refused. No condition.
-/
import Derived.Test.YtlniofkgjibpjaaDoorRows
import Derived.Test.YtlniofkgjibpjaaDoorCards
import Derived.Test.YtlniofkgjibpjaaDoorTie
import Derived.Test.YtlniofkgjibpjaaDoorFrame
import Derived.Test.YtlniofkgjibpjaaDoorLawBack
import Derived.SevenTiedAt
import Derived.Stop.Joined
namespace Go.Proofs.YtlniofkgjibpjaaDoor.lawTitleBack
open Go.ChangeShapes Go.WideShapes Go.ChangeAt Go.RowKit
open Go.ChangeMaps (open_string shut_string)

theorem own : ownKnob Tryd.prog.godebug = none := by kernel_rfl
theorem laidOut : laidOutB Tryd.prog = true := by kernel_rfl
def laid : List (String × DataW Unit) := Rows.titleBackRow.laid

set_option maxRecDepth 100000 in
theorem witnessed (os : Os) (H : Type) (enc : TypeId × Value → H) :
    ∃ (w : World) (tape : Tape) (i : Input), w.os = os ∧ (w.forCall tape i).Shaped Tryd.prog ∧ i.vars = [] ∧ Input.okWide Tryd.prog (w.forCall tape i) .any w.heap.size 6 i ∧
      ((Rows.titleBackSpec.pre enc Tryd.prog Tryd.f6 [] false (w.forCall tape i).memory i.args ∧ laidMetH Tryd.prog laid (w.forCall tape i).memory) ∧ sizedMet enc Tryd.prog Tryd.f6 (OpenSpec.ofChange Rows.titleBackSpec) false (w.forCall tape i).memory i.args) ∧ ({} : Assume).holds Tryd.prog (lone (Frame.enter Tryd.prog 6 i.args .normal) [] (w.forCall tape i)) :=
  ChangeSpec.witness_shaped (enc := enc) (C := Tryd.checked) (os := os) (X := fun w _ => laidMetH Tryd.prog laid w) false (World.laidAll Tryd.prog os laid) #[.agg #[.string ByteArray.empty, .string ByteArray.empty, .string ByteArray.empty]] 8 (World.laidAll_os _ _ _)
    (World.shaped_of_ZipB (by kernel_rfl) (by kernel_rfl)) (by kernel_rfl) (by kernel_rfl) (by kernel_rfl)
    (by rw [MakeChecks.laidMetH_plain _ _ _ (by kernel_rfl)]; exact laidMet_laidAll _ (by kernel_rfl) (by kernel_rfl))

set_option maxRecDepth 100000 in
theorem lifted (os : Os) (started : os.Started) (H : Type) (enc : TypeId × Value → H) :
    ReturnsInHanded {} Tryd.checked os 6 .any (fun w args => (Rows.titleBackSpec.pre enc Tryd.prog Tryd.f6 [] false w args ∧ laidMetH Tryd.prog laid w) ∧ sizedMet enc Tryd.prog Tryd.f6 (OpenSpec.ofChange Rows.titleBackSpec) false w args)
      (Rows.titleBackSpec.post enc Tryd.prog Tryd.f6 false true false false) := by
  refine law_lifted (C := Tryd.checked) (tb := 4) (X := fun w _ => laidMetH Tryd.prog laid w) (fun _ _ _ hh h => h.of_heap hh) own started (by kernel_rfl) Tryd.func6 (witnessed os H enc) laidOut ?_ (by kernel_rfl) Tryd.underlying4 ?_ ?_
  · refine ⟨rfl, fun H ds hd => ?_⟩
    rw [Tryd.params6] at hd
    match ds, hd with
    | [_], _ => exact ⟨rfl, rfl, rfl⟩
  · intro t ht
    rw [Tryd.params6] at ht
    simp only [List.mem_cons, List.mem_nil_iff, or_false] at ht
    subst ht; exact ⟨by kernel_rfl, of_decide_eq_true (by kernel_rfl)⟩
  · intro W base args ds ps hval hA hwt hX hsh
    rw [Tryd.params6] at hA hval hwt
    exact (by
      obtain ⟨v0, d0, p0, rfl, rfl, h0⟩ := args_one hA
      obtain ⟨a, b, c, rfl, hn⟩ := open_arr3_str Tryd.underlying23 Tryd.underlying9 (by kernel_rfl) (by kernel_rfl) (hval 0 23 v0 rfl rfl) h0
      have ha := weight_le hwt (j := 0) rfl rfl (hn a.size (by simp))
      have hb := weight_le hwt (j := 0) rfl rfl (hn b.size (by simp))
      have hc := weight_le hwt (j := 0) rfl rfl (hn c.size (by simp))
      obtain ⟨m, hm⟩ := maxLen_there hsh
      rw [← bar_of a, ← bar_of b, ← bar_of c]
      have ea : a.data.toList.length = a.size := by simp
      have eb : b.data.toList.length = b.size := by simp
      have ec : c.data.toList.length = c.size := by simp
      by_cases hl : 3000 < a.data.toList.length + b.data.toList.length + c.data.toList.length
      · exact lawBack_long _ _ _ m W hm hl (by omega) (by omega) (by omega)
      · exact lawBack_short _ _ _ m W hm (by omega))

theorem row_holds : Rows.TitleBackSaid :=
  OpenClaim.holds_of_wide 6 Tryd.f6 rfl rfl rfl rfl rfl rfl rfl ⟨rfl, rfl, rfl, rfl, rfl⟩ rfl rfl rfl rfl rfl (by kernel_rfl) Tryd.func6 (by kernel_rfl)
    (of_decide_eq_true (by kernel_rfl)) (by unfold Func.isWrapper; first | (rw [if_pos (by decide +kernel)]; kernel_rfl) | (rw [if_neg (by decide +kernel)]; exact ⟨rfl, rfl⟩))
    (fun os started H enc _ => lifted os started H enc)

theorem holds : Rows.TitleBackCardSaid :=
  Claim7.holds_tied_plain_at .later [] [.data, .pinned] true (true, "2a6a94bf736a18bee46b5e712b93237359740c5daa196ed17d43cd7b983f26c1") false
    row_holds (fun _ h => by cases h) (by kernel_rfl) (fun _ h => by cases h) titleBack_row_tie rfl ⟨rfl, rfl⟩ (by kernel_rfl) rfl
    (fun f fn hf hfn => by
      obtain rfl : f = 6 := Option.some.inj ((show Tryd.prog.funcNamed "frisket/frisketlaw13.TitleBack" = some 6 by kernel_rfl).symm.trans hf) |>.symm
      obtain rfl : fn = Tryd.f6 := (Option.some.inj (Tryd.func6.symm.trans hfn)).symm
      exact ⟨by kernel_rfl, fun j t ht => by
        rw [Tryd.params6] at ht
        have hm : t ∈ [23] := by simpa using Array.mem_of_getElem? ht
        have hall : ([23].all fun u => !Tryd.prog.wantsStandIn u) = true := by kernel_rfl
        exact (show Tryd.prog.wantsStandIn t = false by simpa using List.all_eq_true.1 hall t hm)⟩)
    (by kernel_rfl)
#print axioms holds
end Go.Proofs.YtlniofkgjibpjaaDoor.lawTitleBack
