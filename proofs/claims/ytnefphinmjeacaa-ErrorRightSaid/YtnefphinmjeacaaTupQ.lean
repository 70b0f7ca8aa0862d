/- Two tuples compared. -/
import Derived.Test.YtnefphinmjeacaaTupP
import Derived.Test.YtnefphinmjeacaaBits
set_option linter.unusedVariables false
set_option maxRecDepth 100000
set_option linter.unusedSimpArgs false
namespace Go.Proofs.Ytnefphinmjeacaa
open Go.RowKit
theorem tupq_guard : Try.prog.eqGuardType Try.prog.depth 28 = false := by kernel_rfl
theorem tupq_equalIn (x y : Tup) (w : World) : (Op.equalIn 10000 28 (.agg #[.int .i64 x.proto, .int .u32 x.src, .int .i64 x.sport, .int .u32 x.dst, .int .i64 x.dport]) (.agg #[.int .i64 y.proto, .int .u32 y.src, .int .i64 y.sport, .int .u32 y.dst, .int .i64 y.dport])).run Try.prog w = .ok (decide (x = y)) w := by
  have u3 := Try.underlying3
  have a3 := Try.isAgg3
  have z3 := Try.sizeOf3
  have u4 := Try.underlying22
  have a4 := Try.isAgg22
  have z4 := Try.sizeOf22
  have hS : Try.prog.underlying 28 = some (.struct (Try.prog.fieldsOf 28)) := by kernel_rfl
  have hp : Try.prog.stoodInHeld 28 = false := by kernel_rfl
  rw [show (10000 : Nat) = 9999 + 1 from rfl, run_equalIn_agg w 9999 28 _ _ hS hp]
  simp only [Program.fieldsOf, Try.underlying28]
  obtain ⟨xp, xi, xn, xo, xt⟩ := x
  obtain ⟨yp, yi, yn, yo, yt⟩ := y
  go_simp
  by_cases h1 : xp = yp <;> by_cases h2 : xi = yi <;> by_cases h3 : xn = yn <;> by_cases h4 : xo = yo <;> by_cases h5 : xt = yt <;> simp [h1, h2, h3, h4, h5]
theorem tupq_eql (x y : Tup) (w : World) : (binOp .eql 28 (.agg #[.int .i64 x.proto, .int .u32 x.src, .int .i64 x.sport, .int .u32 x.dst, .int .i64 x.dport]) (.agg #[.int .i64 y.proto, .int .u32 y.src, .int .i64 y.sport, .int .u32 y.dst, .int .i64 y.dport])).run Try.prog w = .ok (.bool (decide (x = y))) w := by
  rw [run_eql_struct, tupq_equalIn]; rfl
theorem tupq_neq (x y : Tup) (w : World) : (binOp .neq 28 (.agg #[.int .i64 x.proto, .int .u32 x.src, .int .i64 x.sport, .int .u32 x.dst, .int .i64 x.dport]) (.agg #[.int .i64 y.proto, .int .u32 y.src, .int .i64 y.sport, .int .u32 y.dst, .int .i64 y.dport])).run Try.prog w = .ok (.bool (!decide (x = y))) w := by
  rw [run_neq_struct, tupq_equalIn]; rfl
end Go.Proofs.Ytnefphinmjeacaa
