/- The law AccessCosts. -/
import Derived.Test.YtfnhjflcglichaaAwk
set_option linter.unusedSimpArgs false
set_option linter.unusedVariables false
namespace Go.Proofs.Ytfnhjflcglichaa
open Go.RowKit

set_option maxHeartbeats 4000000 in
theorem lawCosts_any (k : Int) (A : Option Addr) (n c : Nat) (a b s t : Int) (rows : Int) (w : World) (hn : n ≤ 9223372036854775807) (hr0 : -9223372036854775808 ≤ rows) (hr1 : rows ≤ 9223372036854775807) :
    Calls Try.prog 4 #[.agg #[.int .i64 k, .slice A n c, .int .i64 a, .int .i64 b, .int .i64 s, .int .i64 t], .int .i64 rows] w fun e w' => e = .returned (.bool true) ∧ Ext w w' := by
  have H1 := Lib.hid (fun w => cost_any k A n c a b s t rows w hn hr0 hr1)
  have H2 := Lib.hid (fun w => rcost_any k A n c a b s t rows w hn hr0 hr1)
  generalize costF k n rows = z at H1 H2
  go_enter Try.func4, Try.ntmps4
  go_wp2_with fail
  go_region_held3 (fun w' => w'.cell? ⟨w.heap.size, 0, none⟩ = some (.int .i64 k) ∧ w'.cell? ⟨w.heap.size, 1, none⟩ = some (.slice A n c) ∧ w'.cell? ⟨w.heap.size, 2, none⟩ = some (.int .i64 a) ∧ w'.cell? ⟨w.heap.size, 3, none⟩ = some (.int .i64 b) ∧ w'.cell? ⟨w.heap.size, 4, none⟩ = some (.int .i64 s) ∧ w'.cell? ⟨w.heap.size, 5, none⟩ = some (.int .i64 t)) (simp [go_sem, ↓IntWalk.iteOmega, *])
    (first
    | (go_at_call 11; (refine (H1.out _).mono ?_; rintro e w1 ⟨rfl, hb1⟩; obtain ⟨x1, rfl⟩ := hb1.get; clear hb1))
    | (go_at_call 12; (refine (H2.out _).mono ?_; rintro e w1 ⟨rfl, hb1⟩; obtain ⟨x2, rfl⟩ := hb1.get; clear hb1))
    | (go_at_call 7; (refine (awake_any _).mono ?_; rintro e w1 ⟨rfl, hb1⟩; obtain ⟨x3, rfl⟩ := hb1.get; clear hb1)))
  all_goals go_wp2_with fail
  all_goals go_ret
  all_goals exact ⟨rfl, by repeat (first | exact Ext.refl' _ | assumption | apply Ext.ex' | apply Ext.al | apply Ext.drN | apply Ext.dr)⟩
end Go.Proofs.Ytfnhjflcglichaa
