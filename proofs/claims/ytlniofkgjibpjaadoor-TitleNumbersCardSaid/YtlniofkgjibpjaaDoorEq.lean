/-
  '==' at arrays of three strings and of three ints. No condition.
-/
import Derived.Test.YtlniofkgjibpjaaDoorBase
import Derived.Laws.StructEq
namespace Go.Proofs.YtlniofkgjibpjaaDoor
open Go.RowKit
theorem part9 (a b c : Value) (w : World) : (part 9 #[a, b, c] 0).run Tryd.prog w = .ok a w ∧ (part 9 #[a, b, c] 1).run Tryd.prog w = .ok b w ∧ (part 9 #[a, b, c] 2).run Tryd.prog w = .ok c w := ⟨by kernel_rfl, by kernel_rfl, by kernel_rfl⟩
theorem forIn3 {β : Type} {P : Program} (f : Nat → β → Sem (ForInStep β)) (b : β) (w : World) : (forIn [:3] b f).run P w = (forIn [0, 1, 2] b f).run P w := by
  rw [Std.Legacy.Range.forIn_eq_forIn_range']
  rfl
theorem eq3s (d : Nat) (x y z x' y' z' : ByteArray) (w : World) : (Op.equalIn (d + 2) 23 (.agg #[.string x, .string y, .string z]) (.agg #[.string x', .string y', .string z'])).run Tryd.prog w = .ok (x.toList == x'.toList && (y.toList == y'.toList && z.toList == z'.toList)) w := by
  rw [Op.equalIn]
  simp only [Sem.run_bind, run_underlying Tryd.underlying23, Result.andThen_ok, Tryd.sizeOf9, forIn3]
  simp [List.forIn_cons, (part9 _ _ _ _).1, (part9 _ _ _ _).2.1, (part9 _ _ _ _).2.2, Result.andThen_ok, run_equalIn_string w d 9 _ _ Tryd.underlying9]
  by_cases h1 : x.toList = x'.toList <;> by_cases h2 : y.toList = y'.toList <;> by_cases h3 : z.toList = z'.toList <;> simp [h1, h2, h3]
theorem run_eq3s (x y z x' y' z' : ByteArray) (w : World) : (Op.equalIn 10000 23 (.agg #[.string x, .string y, .string z]) (.agg #[.string x', .string y', .string z'])).run Tryd.prog w = .ok (x.toList == x'.toList && (y.toList == y'.toList && z.toList == z'.toList)) w := eq3s 9998 x y z x' y' z' w
theorem part3 (a b c : Value) (w : World) : (part 3 #[a, b, c] 0).run Tryd.prog w = .ok a w ∧ (part 3 #[a, b, c] 1).run Tryd.prog w = .ok b w ∧ (part 3 #[a, b, c] 2).run Tryd.prog w = .ok c w := ⟨by kernel_rfl, by kernel_rfl, by kernel_rfl⟩
theorem eq3i (d : Nat) (x y z x' y' z' : Int) (w : World) : (Op.equalIn (d + 2) 28 (.agg #[.int .i64 x, .int .i64 y, .int .i64 z]) (.agg #[.int .i64 x', .int .i64 y', .int .i64 z'])).run Tryd.prog w = .ok (x == x' && (y == y' && z == z')) w := by
  rw [Op.equalIn]
  simp only [Sem.run_bind, run_underlying Tryd.underlying28, Result.andThen_ok, Tryd.sizeOf3, forIn3]
  simp [List.forIn_cons, (part3 _ _ _ _).1, (part3 _ _ _ _).2.1, (part3 _ _ _ _).2.2, Result.andThen_ok, run_equalIn_int w d 3 .i64 .i64 _ _ Tryd.underlying3]
  by_cases h1 : x = x' <;> by_cases h2 : y = y' <;> by_cases h3 : z = z' <;> simp [h1, h2, h3]
theorem run_eq3i (x y z x' y' z' : Int) (w : World) : (Op.equalIn 10000 28 (.agg #[.int .i64 x, .int .i64 y, .int .i64 z]) (.agg #[.int .i64 x', .int .i64 y', .int .i64 z'])).run Tryd.prog w = .ok (x == x' && (y == y' && z == z')) w := eq3i 9998 x y z x' y' z' w
end Go.Proofs.YtlniofkgjibpjaaDoor
