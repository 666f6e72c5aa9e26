/-
  An element of an array that is held by value.
-/
import Derived.Test.YthinhhfegflmmaaDelta
import Derived.ChangeKeysEq
namespace Go.Proofs.Ythinhhfegflmmaa.Six
open Go.RowKit
set_option linter.unusedVariables false
set_option linter.unusedSimpArgs false
set_option linter.unusedSimpArgs false
theorem triadSize : Try.t83.size = 3 := by kernel_rfl
theorem intSize : Try.t3.size = 1 := by kernel_rfl
theorem infoTriad : (Try.prog.info? 83).map (fun i => (i.zero, i.size, i.bytes)) = some (some (.agg #[.int .i64 0, .int .i64 0, .int .i64 0]), 3, 24) := by kernel_rfl
theorem idx0 (a b c d e f g h i j k l : Value) (W : World) : (Instr.index 84 (.agg #[a, b, c, d, e, f, g, h, i, j, k, l]) (.int .i64 0)).run Try.prog W = .ok (.agg #[a, b, c]) W := by
  obtain ⟨i0, hi, _, hz1, _⟩ := info_parts infoTriad
  simp [Instr.index, run_underlying Try.underlying84, run_underlying Try.underlying83, asIntOf, part, isAgg, run_sizeOf W hi, sizeOf, go_sem, triadSize]
theorem idx1 (a b c d e f g h i j k l : Value) (W : World) : (Instr.index 84 (.agg #[a, b, c, d, e, f, g, h, i, j, k, l]) (.int .i64 1)).run Try.prog W = .ok (.agg #[d, e, f]) W := by
  obtain ⟨i0, hi, _, hz1, _⟩ := info_parts infoTriad
  simp [Instr.index, run_underlying Try.underlying84, run_underlying Try.underlying83, asIntOf, part, isAgg, run_sizeOf W hi, sizeOf, go_sem, triadSize]
theorem idx2 (a b c d e f g h i j k l : Value) (W : World) : (Instr.index 84 (.agg #[a, b, c, d, e, f, g, h, i, j, k, l]) (.int .i64 2)).run Try.prog W = .ok (.agg #[g, h, i]) W := by
  obtain ⟨i0, hi, _, hz1, _⟩ := info_parts infoTriad
  simp [Instr.index, run_underlying Try.underlying84, run_underlying Try.underlying83, asIntOf, part, isAgg, run_sizeOf W hi, sizeOf, go_sem, triadSize]
theorem idx3 (a b c d e f g h i j k l : Value) (W : World) : (Instr.index 84 (.agg #[a, b, c, d, e, f, g, h, i, j, k, l]) (.int .i64 3)).run Try.prog W = .ok (.agg #[j, k, l]) W := by
  obtain ⟨i0, hi, _, hz1, _⟩ := info_parts infoTriad
  simp [Instr.index, run_underlying Try.underlying84, run_underlying Try.underlying83, asIntOf, part, isAgg, run_sizeOf W hi, sizeOf, go_sem, triadSize]
theorem jdx0 (a b c : Int) (W : World) : (Instr.index 90 (.agg #[.int .i64 a, .int .i64 b, .int .i64 c]) (.int .i64 0)).run Try.prog W = .ok (.int .i64 a) W := by
  simp [Instr.index, run_underlying Try.underlying90, run_underlying Try.underlying3, asIntOf, part, isAgg, sizeOf, go_sem, intSize]
theorem jdx1 (a b c : Int) (W : World) : (Instr.index 90 (.agg #[.int .i64 a, .int .i64 b, .int .i64 c]) (.int .i64 1)).run Try.prog W = .ok (.int .i64 b) W := by
  simp [Instr.index, run_underlying Try.underlying90, run_underlying Try.underlying3, asIntOf, part, isAgg, sizeOf, go_sem, intSize]
theorem jdx2 (a b c : Int) (W : World) : (Instr.index 90 (.agg #[.int .i64 a, .int .i64 b, .int .i64 c]) (.int .i64 2)).run Try.prog W = .ok (.int .i64 c) W := by
  simp [Instr.index, run_underlying Try.underlying90, run_underlying Try.underlying3, asIntOf, part, isAgg, sizeOf, go_sem, intSize]
end Go.Proofs.Ythinhhfegflmmaa.Six
