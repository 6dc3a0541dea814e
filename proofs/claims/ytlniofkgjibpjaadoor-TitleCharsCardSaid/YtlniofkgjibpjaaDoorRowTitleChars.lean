/-
  The statement TitleChars: parts that have the char and the backslash often have the page's number put in as the reference puts it. No condition.
-/
import Derived.Test.YtlniofkgjibpjaaDoorRows
import Derived.Test.YtlniofkgjibpjaaDoorCards
import Derived.Test.YtlniofkgjibpjaaDoorTie
import Derived.Test.YtlniofkgjibpjaaDoorFrame
import Derived.Test.YtlniofkgjibpjaaDoorLawChars
import Derived.SevenTiedAt
import Derived.Stop.Joined
namespace Go.Proofs.YtlniofkgjibpjaaDoor.lawTitleChars
open Go.ChangeShapes Go.WideShapes Go.ChangeAt Go.RowKit
open Go.ChangeMaps (open_string shut_string)

theorem own : ownKnob Tryd.prog.godebug = none := by kernel_rfl
theorem laidOut : laidOutB Tryd.prog = true := by kernel_rfl
def laid : List (String × DataW Unit) := Rows.titleCharsRow.laid

set_option maxRecDepth 100000 in
theorem witnessed (os : Os) (H : Type) (enc : TypeId × Value → H) :
    ∃ (w : World) (tape : Tape) (i : Input), w.os = os ∧ (w.forCall tape i).Shaped Tryd.prog ∧ i.vars = [] ∧ Input.okWide Tryd.prog (w.forCall tape i) .any w.heap.size 7 i ∧
      ((Rows.titleCharsSpec.pre enc Tryd.prog Tryd.f7 [] false (w.forCall tape i).memory i.args ∧ laidMetH Tryd.prog laid (w.forCall tape i).memory) ∧ sizedMet enc Tryd.prog Tryd.f7 (OpenSpec.ofChange Rows.titleCharsSpec) false (w.forCall tape i).memory i.args) ∧ ({} : Assume).holds Tryd.prog (lone (Frame.enter Tryd.prog 7 i.args .normal) [] (w.forCall tape i)) :=
  ChangeSpec.witness_shaped (enc := enc) (C := Tryd.checked) (os := os) (X := fun w _ => laidMetH Tryd.prog laid w) false (World.laidAll Tryd.prog os laid) #[.slice none 0 0, .int .i64 0] 8 (World.laidAll_os _ _ _)
    (World.shaped_of_ZipB (by kernel_rfl) (by kernel_rfl)) (by kernel_rfl) (by kernel_rfl) (by kernel_rfl)
    (by rw [MakeChecks.laidMetH_plain _ _ _ (by kernel_rfl)]; exact laidMet_laidAll _ (by kernel_rfl) (by kernel_rfl))

set_option maxRecDepth 100000 in
theorem lifted (os : Os) (started : os.Started) (H : Type) (enc : TypeId × Value → H) :
    ReturnsInHanded {} Tryd.checked os 7 .any (fun w args => (Rows.titleCharsSpec.pre enc Tryd.prog Tryd.f7 [] false w args ∧ laidMetH Tryd.prog laid w) ∧ sizedMet enc Tryd.prog Tryd.f7 (OpenSpec.ofChange Rows.titleCharsSpec) false w args)
      (Rows.titleCharsSpec.post enc Tryd.prog Tryd.f7 false true false false) := by
  refine law_lifted (C := Tryd.checked) (tb := 4) (X := fun w _ => laidMetH Tryd.prog laid w) (fun _ _ _ hh h => h.of_heap hh) own started (by kernel_rfl) Tryd.func7 (witnessed os H enc) laidOut ?_ (by kernel_rfl) Tryd.underlying4 ?_ ?_
  · refine ⟨rfl, fun H ds hd => ?_⟩
    rw [Tryd.params7] at hd
    match ds, hd with
    | [_, _], _ => exact ⟨rfl, rfl, rfl⟩
  · intro t ht
    rw [Tryd.params7] at ht
    simp only [List.mem_cons, List.mem_nil_iff, or_false] at ht
    rcases ht with rfl | rfl <;> exact ⟨by kernel_rfl, of_decide_eq_true (by kernel_rfl)⟩
  · intro W base args ds ps hval hA hwt hX hsh
    rw [Tryd.params7] at hA hval hwt
    exact (by
      obtain ⟨v0, v1, d0, d1, p0, p1, rfl, rfl, h0, h1⟩ := args_two hA
      obtain ⟨page, rfl, _, _, wp⟩ := open_int Tryd.underlying3 (hval 1 3 v1 rfl rfl) h1
      obtain ⟨hp1, hp2⟩ : -9223372036854775808 ≤ page ∧ page ≤ 9223372036854775807 := by simpa [Lit.wf, IntKind.min, IntKind.max, IntKind.signed, IntKind.bits] using wp
      obtain ⟨m, hm⟩ := maxLen_there hsh
      have hL : laidMet Tryd.prog laid W := by
        have h := hX
        rw [MakeChecks.laidMetH_plain _ _ _ (by kernel_rfl)] at h
        exact h
      have htab : Lib.TabIs Tryd.prog W "internal/strconv.uint64pow10" .u64 Lib.pow10Tab := tabIs_of_laid (g := 1) (t := 99) (e := 78) (n := 20) (by kernel_rfl) (by kernel_rfl) Tryd.underlying99 Tryd.underlying78 (by kernel_rfl) (by kernel_rfl) hL (.tail _ (.tail _ (.head _)))
      have hg1 : 1 < W.heap.size := World.block_lt_of_cell? _ _ (Lib.TabIs.cell htab (g := 1) (by kernel_rfl) 0 (by rw [Lib.pow10Tab_length]; omega))
      rcases open_nums Tryd.underlying36 Tryd.underlying3 (by kernel_rfl) (hval 0 36 v0 rfl rfl) h0 with ⟨a, cap, rfl⟩ | ⟨b, off, len, cap, zs, rfl, _, hz, hl, hlm, hb, hc, _⟩
      · exact lawChars0 a cap page m W hm hp1 hp2 htab hg1
      · exact lawChars b off len cap zs page m W hm hp1 hp2 htab hg1 hz hl hlm hb hc)

theorem row_holds : Rows.TitleCharsSaid :=
  OpenClaim.holds_of_wide 7 Tryd.f7 rfl rfl rfl rfl rfl rfl rfl ⟨rfl, rfl, rfl, rfl, rfl⟩ rfl rfl rfl rfl rfl (by kernel_rfl) Tryd.func7 (by kernel_rfl)
    (of_decide_eq_true (by kernel_rfl)) (by unfold Func.isWrapper; first | (rw [if_pos (by decide +kernel)]; kernel_rfl) | (rw [if_neg (by decide +kernel)]; exact ⟨rfl, rfl⟩))
    (fun os started H enc _ => lifted os started H enc)

theorem holds : Rows.TitleCharsCardSaid :=
  Claim7.holds_tied_plain_at .later [] [.data, .data, .data, .data, .pinned] true (true, "2a6a94bf736a18bee46b5e712b93237359740c5daa196ed17d43cd7b983f26c1") false
    row_holds (fun _ h => by cases h) (by kernel_rfl) (fun _ h => by cases h) titleChars_row_tie rfl ⟨rfl, rfl⟩ (by kernel_rfl) rfl
    (fun f fn hf hfn => by
      obtain rfl : f = 7 := Option.some.inj ((show Tryd.prog.funcNamed "frisket/frisketlaw13.TitleChars" = some 7 by kernel_rfl).symm.trans hf) |>.symm
      obtain rfl : fn = Tryd.f7 := (Option.some.inj (Tryd.func7.symm.trans hfn)).symm
      exact ⟨by kernel_rfl, fun j t ht => by
        rw [Tryd.params7] at ht
        have hm : t ∈ [36, 3] := by simpa using Array.mem_of_getElem? ht
        have hall : ([36, 3].all fun u => !Tryd.prog.wantsStandIn u) = true := by kernel_rfl
        exact (show Tryd.prog.wantsStandIn t = false by simpa using List.all_eq_true.1 hall t hm)⟩)
    (by kernel_rfl)
#print axioms holds
end Go.Proofs.YtlniofkgjibpjaaDoor.lawTitleChars
