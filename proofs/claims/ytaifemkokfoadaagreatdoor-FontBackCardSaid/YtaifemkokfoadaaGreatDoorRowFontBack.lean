/-
  Font back: a font written and read is the same, and a byte turned is read alike by the program and the document. No condition.
-/
import Derived.Test.YtaifemkokfoadaaGreatDoorRows
import Derived.Test.YtaifemkokfoadaaGreatDoorCards
import Derived.Test.YtaifemkokfoadaaGreatDoorTie
import Derived.Test.YtaifemkokfoadaaGreatDoorGSB1
import Derived.Test.YtaifemkokfoadaaGreatDoorGSB7
import Derived.Test.YtaifemkokfoadaaGreatDoorGSB8
import Derived.SevenTiedAt
import Derived.Stop.Joined
namespace Go.Proofs.YtaifemkokfoadaaGreatDoor.lawFontBack
open Go.ChangeShapes Go.WideShapes Go.ChangeAt Go.RowKit
open Go.ChangeMaps (open_string shut_string)

theorem own : ownKnob Tryz.prog.godebug = none := by kernel_rfl
theorem laidOut : laidOutB Tryz.prog = true := by kernel_rfl
def laid : List (String × DataW Unit) := Rows.fontBackRow.laid

set_option maxRecDepth 100000 in
theorem witnessed (os : Os) (H : Type) (enc : TypeId × Value → H) :
    ∃ (w : World) (tape : Tape) (i : Input), w.os = os ∧ (w.forCall tape i).Shaped Tryz.prog ∧ i.vars = [] ∧ Input.okWide Tryz.prog (w.forCall tape i) .any w.heap.size 9 i ∧
      ((Rows.fontBackSpec.pre enc Tryz.prog Tryz.f9 [] false (w.forCall tape i).memory i.args ∧ laidMetH Tryz.prog laid (w.forCall tape i).memory) ∧ sizedMet enc Tryz.prog Tryz.f9 (OpenSpec.ofChange Rows.fontBackSpec) false (w.forCall tape i).memory i.args) ∧ ({} : Assume).holds Tryz.prog (lone (Frame.enter Tryz.prog 9 i.args .normal) [] (w.forCall tape i)) :=
  ChangeSpec.witness_shaped (enc := enc) (C := Tryz.checked) (os := os) (X := fun w _ => laidMetH Tryz.prog laid w) false (World.laidAll Tryz.prog os laid) #[.slice none 0 0, .int .i64 0, .int .i64 0] 8 (World.laidAll_os _ _ _)
    (World.shaped_of_ZipB (by kernel_rfl) (by kernel_rfl)) (by kernel_rfl) (by kernel_rfl) (by kernel_rfl)
    (by rw [MakeChecks.laidMetH_plain _ _ _ (by kernel_rfl)]; exact laidMet_laidAll _ (by kernel_rfl) (by kernel_rfl))

set_option maxRecDepth 100000 in
theorem lifted (os : Os) (started : os.Started) (H : Type) (enc : TypeId × Value → H) :
    ReturnsInHanded {} Tryz.checked os 9 .any (fun w args => (Rows.fontBackSpec.pre enc Tryz.prog Tryz.f9 [] false w args ∧ laidMetH Tryz.prog laid w) ∧ sizedMet enc Tryz.prog Tryz.f9 (OpenSpec.ofChange Rows.fontBackSpec) false w args)
      (Rows.fontBackSpec.post enc Tryz.prog Tryz.f9 false true false false) := by
  refine zxX (C := Tryz.checked) (tb := 4) (X := fun w _ => laidMetH Tryz.prog laid w) (fun _ _ _ hh h => h.of_heap hh) own started (by kernel_rfl) Tryz.func9 (witnessed os H enc) laidOut ?_ (by kernel_rfl) Tryz.underlying4 ?_ ?_
  · refine ⟨rfl, fun H ds hd => ?_⟩
    rw [Tryz.params9] at hd
    match ds, hd with
    | [_, _, _], _ => exact ⟨rfl, rfl, rfl⟩
  · intro t ht
    rw [Tryz.params9] at ht
    simp only [List.mem_cons, List.mem_nil_iff, or_false] at ht
    rcases ht with rfl | rfl | rfl <;> exact ⟨by kernel_rfl, of_decide_eq_true (by kernel_rfl)⟩
  · intro W base args ds ps hval hA hwt hX hsh
    rw [Tryz.params9] at hA hval hwt
    exact (by
      obtain ⟨v0, v1, v2, d0, d1, d2, p0, p1, p2, rfl, rfl, h0, h1, h2⟩ := zxJ hA
      obtain ⟨n1, rfl, _, _, _⟩ := open_int Tryz.underlying3 (hval 1 3 v1 rfl rfl) h1
      obtain ⟨n2, rfl, _, _, _⟩ := open_int Tryz.underlying3 (hval 2 3 v2 rfl rfl) h2
      have hL : laidMet Tryz.prog laid W := by
        have h := hX
        rw [MakeChecks.laidMetH_plain _ _ _ (by kernel_rfl)] at h
        exact h
      have hG : GW W := zWh hL hsh (.tail _ (.tail _ (.head _))) (.tail _ (.tail _ (.tail _ (.tail _ (.tail _ (.head _)))))) (.tail _ (.tail _ (.tail _ (.tail _ (.head _))))) (.tail _ (.tail _ (.tail _ (.tail _ (.tail _ (.tail _ (.tail _ (.head _))))))))
      obtain ⟨A0, c0, l0, rfl, hc0, hC0, _⟩ := zv1 (zx.zK.Kd.int .i64) (fun _ _ => True) Tryz.underlying53 (by kernel_rfl) (fun n cs x h => (zdY n cs x h).imp fun y hy => ⟨hy, trivial⟩) (hval 0 53 v0 rfl rfl) h0
      exact zjU A0 c0 l0 n1 n2 W hG hC0 hc0)

theorem row_holds : Rows.FontBackSaid :=
  OpenClaim.holds_of_wide 9 Tryz.f9 rfl rfl rfl rfl rfl rfl rfl ⟨rfl, rfl, rfl, rfl, rfl⟩ rfl rfl rfl rfl rfl (by kernel_rfl) Tryz.func9 (by kernel_rfl)
    (of_decide_eq_true (by kernel_rfl)) (by unfold Func.isWrapper; first | (rw [if_pos (by decide +kernel)]; kernel_rfl) | (rw [if_neg (by decide +kernel)]; exact ⟨rfl, rfl⟩))
    (fun os started H enc _ => lifted os started H enc)

theorem holds : Rows.FontBackCardSaid :=
  Claim7.holds_tied_plain_at .later [] [.data, .data, .data, .data, .sentinel, .sentinel, .listed, .data, .pinned] true (true, "6ddb8766e40130a38551bf6624c057b29a9eb359b48b33ef66c4056b53609c86") true
    row_holds (fun _ h => by cases h) (by kernel_rfl) (fun _ h => by cases h) fontBack_row_tie rfl ⟨rfl, rfl⟩ (by kernel_rfl) rfl
    (fun f fn hf hfn => by
      obtain rfl : f = 9 := Option.some.inj ((show Tryz.prog.funcNamed "frisket/frisketlaw07.FontBack" = some 9 by kernel_rfl).symm.trans hf) |>.symm
      obtain rfl : fn = Tryz.f9 := (Option.some.inj (Tryz.func9.symm.trans hfn)).symm
      exact ⟨by kernel_rfl, fun j t ht => by
        rw [Tryz.params9] at ht
        have hm : t ∈ [53, 3, 3] := by simpa using Array.mem_of_getElem? ht
        have hall : ([53, 3, 3].all fun u => !Tryz.prog.wantsStandIn u) = true := by kernel_rfl
        exact (show Tryz.prog.wantsStandIn t = false by simpa using List.all_eq_true.1 hall t hm)⟩)
    (by kernel_rfl)
#print axioms holds
end Go.Proofs.YtaifemkokfoadaaGreatDoor.lawFontBack
