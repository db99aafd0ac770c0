/- The reference of access: System. -/
import Derived.Test.YtflhikpihbenaaaGreatVpk
import Derived.Test.YtflhikpihbenaaaGreatCho
set_option linter.unusedSimpArgs false
set_option linter.unusedVariables false
namespace Go.Proofs.YtflhikpihbenaaaGreat
open Go.RowKit


set_option maxHeartbeats 1600000 in
theorem rsystem_any (k f t : Int) (w : World) (hf0 : -9223372036854775808 ≤ f) (hf : f ≤ 1099511627776) (ht0 : -9223372036854775808 ≤ t) (ht : t ≤ 1099511627776) :
    Calls Tryz.prog 7 #[.agg #[.int .i64 k, .int .i64 f, .int .i64 t]] w fun e w' => e = .returned (pr (sysF k f t)) ∧ Ext w w' := by
  go_enter Tryz.func7, Tryz.ntmps7
  go_wp2
  all_goals refine bodyPost_ret (v := pr (sysF k f t)) ?_ rfl ⟨rfl, by repeat (first | exact Ext.refl' _ | assumption | apply Ext.ex' | apply Ext.al | apply Ext.drN | apply Ext.dr)⟩
  all_goals simp [results, Tryz.results7, go_sem, ↓IntWalk.iteOmega]
  all_goals simp_all [sysF]
def eqR : Option Cd → Value
  | none => .tuple #[vag nullV, .bool false]
  | some c => .tuple #[vag c.v, .bool true]
end Go.Proofs.YtflhikpihbenaaaGreat
