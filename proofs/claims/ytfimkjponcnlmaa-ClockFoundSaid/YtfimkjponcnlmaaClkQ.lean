/- Equality of the structs of two ints. -/
import Derived.Test.YtfimkjponcnlmaaBase
set_option linter.unusedSimpArgs false
set_option linter.unusedVariables false
namespace Go.Proofs.Ytfimkjponcnlmaa
open Go.RowKit

theorem held_stamp : Try.prog.stoodInHeld 34 = false := by kernel_rfl
@[go_sem] theorem guard_stamp : Try.prog.eqGuardType Try.prog.depth 34 = false := by kernel_rfl
@[go_sem high] theorem neq_stamp (a b c d : Int) (w : World) : (binOp .neq 34 (.agg #[.int .i64 a, .int .i64 b]) (.agg #[.int .i64 c, .int .i64 d])).run Try.prog w = .ok (.bool (!(a == c && b == d))) w := by
  simp [go_sem, held_stamp, Try.underlying34]
  by_cases h1 : a = c <;> by_cases h2 : b = d <;> simp [h1, h2]
@[go_sem high] theorem eql_stamp (a b c d : Int) (w : World) : (binOp .eql 34 (.agg #[.int .i64 a, .int .i64 b]) (.agg #[.int .i64 c, .int .i64 d])).run Try.prog w = .ok (.bool (a == c && b == d)) w := by
  simp [go_sem, held_stamp, Try.underlying34]
  by_cases h1 : a = c <;> by_cases h2 : b = d <;> simp [h1, h2]

theorem held_period : Try.prog.stoodInHeld 49 = false := by kernel_rfl
@[go_sem] theorem guard_period : Try.prog.eqGuardType Try.prog.depth 49 = false := by kernel_rfl
@[go_sem high] theorem neq_period (a b c d : Int) (w : World) : (binOp .neq 49 (.agg #[.int .i64 a, .int .i64 b]) (.agg #[.int .i64 c, .int .i64 d])).run Try.prog w = .ok (.bool (!(a == c && b == d))) w := by
  simp [go_sem, held_period, Try.underlying49]
  by_cases h1 : a = c <;> by_cases h2 : b = d <;> simp [h1, h2]
@[go_sem high] theorem eql_period (a b c d : Int) (w : World) : (binOp .eql 49 (.agg #[.int .i64 a, .int .i64 b]) (.agg #[.int .i64 c, .int .i64 d])).run Try.prog w = .ok (.bool (a == c && b == d)) w := by
  simp [go_sem, held_period, Try.underlying49]
  by_cases h1 : a = c <;> by_cases h2 : b = d <;> simp [h1, h2]

theorem held_clock : Try.prog.stoodInHeld 23 = false := by kernel_rfl
@[go_sem] theorem guard_clock : Try.prog.eqGuardType Try.prog.depth 23 = false := by kernel_rfl
@[go_sem high] theorem neq_clock (a b c d : Int) (w : World) : (binOp .neq 23 (.agg #[.int .i64 a, .int .i64 b]) (.agg #[.int .i64 c, .int .i64 d])).run Try.prog w = .ok (.bool (!(a == c && b == d))) w := by
  simp [go_sem, held_clock, Try.underlying23]
  by_cases h1 : a = c <;> by_cases h2 : b = d <;> simp [h1, h2]
@[go_sem high] theorem eql_clock (a b c d : Int) (w : World) : (binOp .eql 23 (.agg #[.int .i64 a, .int .i64 b]) (.agg #[.int .i64 c, .int .i64 d])).run Try.prog w = .ok (.bool (a == c && b == d)) w := by
  simp [go_sem, held_clock, Try.underlying23]
  by_cases h1 : a = c <;> by_cases h2 : b = d <;> simp [h1, h2]

end Go.Proofs.Ytfimkjponcnlmaa
