/- Lemmas for the rows: SpA. -/
import Derived.Test.YtdiaecgpjgdkdaaGreatThS03
import Derived.Test.YtdiaecgpjgdkdaaGreatThS04
import Derived.Test.YtdiaecgpjgdkdaaGreatThS01
import Derived.StillTailTactics
set_option linter.unusedSimpArgs false
set_option linter.unusedVariables false
namespace Go.Proofs.YtdiaecgpjgdkdaaGreat
open Go.RowKit

abbrev pr (p : Int × Int) : Value := .agg #[.int .i64 p.1, .int .i64 p.2]
theorem held_period : Tryz.prog.stoodInHeld 35 = false := by kernel_rfl
@[go_sem] theorem guard_period : Tryz.prog.eqGuardType Tryz.prog.depth 35 = false := by kernel_rfl
@[go_sem high] theorem neq_period (a b c d : Int) (w : World) : (binOp .neq 35 (.agg #[.int .i64 a, .int .i64 b]) (.agg #[.int .i64 c, .int .i64 d])).run Tryz.prog w = .ok (.bool (!(a == c && b == d))) w := by
 simp [go_sem, held_period, Tryz.underlying35]
 by_cases h1 : a = c <;> by_cases h2 : b = d <;> simp [h1, h2]
@[go_sem high] theorem eql_period (a b c d : Int) (w : World) : (binOp .eql 35 (.agg #[.int .i64 a, .int .i64 b]) (.agg #[.int .i64 c, .int .i64 d])).run Tryz.prog w = .ok (.bool (a == c && b == d)) w := by
 simp [go_sem, held_period, Tryz.underlying35]
 by_cases h1 : a = c <;> by_cases h2 : b = d <;> simp [h1, h2]
theorem elInt : El Tryz.prog 23 3 (.int .i64 0) 1 8 := ⟨Tryz.underlying23, info_parts (by kernel_rfl), rfl, by decide⟩
def RdP (sz n : Nat) (xs : List Value) (w : World) (e : Ending) (w' : World) : Prop := ∃ A c, e = .returned (.slice A n c) ∧ Ext w w' ∧ Rd w' sz A n xs
def povB (p q : Int × Int) : Bool := pvB p && pvB q && decide (p.1 < q.2) && decide (q.1 < p.2)
set_option maxHeartbeats 400000 in
theorem pvalid_any (p : Int × Int) (w : World) :
  Calls Tryz.prog 42 #[pr p] w fun e w' => e = .returned (.bool (pvB p)) ∧ Ext w w' := by
 go_enter Tryz.func42, Tryz.ntmps42
 go_wp2
 all_goals go_ret
 all_goals refine ⟨?_, Ext.al1 _ _⟩
 all_goals simp_all [pvB]
 all_goals omega

set_option maxHeartbeats 400000 in
theorem rvalid_any (p : Int × Int) (w : World) :
  Calls Tryz.prog 39 #[pr p] w fun e w' => e = .returned (.bool (pvB p)) ∧ Ext w w' := by
 go_enter Tryz.func39, Tryz.ntmps39
 go_wp2
 all_goals go_ret
 all_goals refine ⟨?_, Ext.al1 _ _⟩
 all_goals simp_all [pvB]
 all_goals omega

end Go.Proofs.YtdiaecgpjgdkdaaGreat
