/- The contracts of package period's small functions: Valid, Overlaps, Adjacent, Merge. -/
import Derived.Test.YtfimkjponcnlmaaBase
set_option linter.unusedSimpArgs false
set_option linter.unusedVariables false
namespace Go.Proofs.Ytfimkjponcnlmaa
open Go.RowKit

def pvB (p : Int × Int) : Bool := decide (0 ≤ p.1) && decide (p.1 < p.2) && decide (p.2 ≤ 1099511627776)
def povB (p q : Int × Int) : Bool := pvB p && pvB q && decide (p.1 < q.2) && decide (q.1 < p.2)
def padB (p q : Int × Int) : Bool := pvB p && pvB q && (p.2 == q.1 || q.2 == p.1)
def pmerge (p q : Int × Int) : (Int × Int) × Bool :=
  if povB p q || padB p q then ((if q.1 < p.1 then q.1 else p.1, if p.2 < q.2 then q.2 else p.2), true) else ((0, 0), false)

/-- a struct of two ints -/
abbrev pr (p : Int × Int) : Value := .agg #[.int .i64 p.1, .int .i64 p.2]

set_option maxHeartbeats 400000 in
theorem pvalid_any (p : Int × Int) (w : World) :
    Calls Try.prog 37 #[pr p] w fun e w' => e = .returned (.bool (pvB p)) ∧ Ext w w' := by
  go_enter Try.func37, Try.ntmps37
  go_wp2
  all_goals go_ret
  all_goals refine ⟨?_, Ext.al1 _ _⟩
  all_goals simp_all [pvB]
  all_goals omega

set_option maxHeartbeats 400000 in
theorem poverlaps_any (p q : Int × Int) (w : World) :
    Calls Try.prog 35 #[pr p, pr q] w fun e w' => e = .returned (.bool (povB p q)) ∧ Ext w w' := by
  go_enter Try.func35, Try.ntmps35
  go_wp2_with (go_at_call 37; refine (pvalid_any _ _).mono ?_; rintro e w1 ⟨rfl, hb1⟩; obtain ⟨x1, rfl⟩ := hb1.get; clear hb1)
  all_goals go_ret
  all_goals refine ⟨?_, by repeat (first | exact Ext.refl' _ | apply Ext.ex' | apply Ext.al)⟩
  all_goals simp_all [povB]
  all_goals omega

set_option maxHeartbeats 400000 in
theorem padjacent_any (p q : Int × Int) (w : World) :
    Calls Try.prog 36 #[pr p, pr q] w fun e w' => e = .returned (.bool (padB p q)) ∧ Ext w w' := by
  go_enter Try.func36, Try.ntmps36
  go_wp2_with (go_at_call 37; refine (pvalid_any _ _).mono ?_; rintro e w1 ⟨rfl, hb1⟩; obtain ⟨x1, rfl⟩ := hb1.get; clear hb1)
  all_goals go_ret
  all_goals refine ⟨?_, by repeat (first | exact Ext.refl' _ | apply Ext.ex' | apply Ext.al)⟩
  all_goals simp_all [padB]

set_option maxHeartbeats 400000 in
theorem pmerge_any (p q : Int × Int) (w : World) :
    Calls Try.prog 33 #[pr p, pr q] w fun e w' => e = .returned (.tuple #[pr (pmerge p q).1, .bool (pmerge p q).2]) ∧ Ext w w' := by
  go_enter Try.func33, Try.ntmps33
  go_wp2_with (first
    | (go_at_call 35; refine (poverlaps_any _ _ _).mono ?_; rintro e w1 ⟨rfl, hb1⟩; obtain ⟨x1, rfl⟩ := hb1.get; clear hb1)
    | (go_at_call 36; refine (padjacent_any _ _ _).mono ?_; rintro e w1 ⟨rfl, hb1⟩; obtain ⟨x2, rfl⟩ := hb1.get; clear hb1))
  all_goals refine bodyPost_ret (v := .tuple #[pr (pmerge p q).1, .bool (pmerge p q).2]) ?_ rfl ⟨rfl, by repeat (first | exact Ext.refl' _ | apply Ext.ex' | apply Ext.al)⟩
  all_goals simp [results, Try.results33, go_sem, ↓IntWalk.iteOmega]
  all_goals simp_all [pmerge]
  all_goals omega
end Go.Proofs.Ytfimkjponcnlmaa
