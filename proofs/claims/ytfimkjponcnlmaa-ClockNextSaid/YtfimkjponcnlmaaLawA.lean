/- The walks of the laws ClockNext and ClockCheck. -/
import Derived.Test.YtfimkjponcnlmaaClkV
set_option linter.unusedSimpArgs false
set_option linter.unusedVariables false
namespace Go.Proofs.Ytfimkjponcnlmaa
open Go.RowKit

set_option maxHeartbeats 2000000 in
theorem lawNext_any (c : Int × Int) (wall : Int) (w : World) : Calls Try.prog 3 #[pr c, .int .i64 wall] w fun e w' => e = .returned (.bool true) ∧ Ext w w' := by
  have H1 := Lib.hid (fun w => cnext_any c wall w)
  have H2 := Lib.hid (fun w => rnext_any c wall w)
  have H3 := Lib.hid (fun w => cbehind_any c wall w)
  have H4 := Lib.hid (fun w => rbehind_any c wall w)
  generalize nextF c wall = nx at H1 H2
  generalize behindF c wall = bh at H3 H4
  go_enter Try.func3, Try.ntmps3
  go_wp2_with (first | (go_at_call 10; (refine (H1.out _).mono ?_; rintro e w1 ⟨rfl, hb1⟩; obtain ⟨x1, rfl⟩ := hb1.get; clear hb1)) | (go_at_call 11; (refine (H2.out _).mono ?_; rintro e w1 ⟨rfl, hb1⟩; obtain ⟨x2, rfl⟩ := hb1.get; clear hb1)))
  go_region_held3 (fun w' => w'.cell? ⟨w.heap.size, 0, none⟩ = some (.int .i64 c.1) ∧ w'.cell? ⟨w.heap.size, 1, none⟩ = some (.int .i64 c.2) ∧ w'.cell? ⟨w.heap.size + 1 + x1.n, 0, none⟩ = some (.int .i64 nx.1.1) ∧ w'.cell? ⟨w.heap.size + 1 + x1.n, 1, none⟩ = some (.int .i64 nx.1.2) ∧
      w'.cell? ⟨w.heap.size + 1 + x1.n + 1 + x2.n, 0, none⟩ = some (.int .i64 nx.1.1) ∧ w'.cell? ⟨w.heap.size + 1 + x1.n + 1 + x2.n, 1, none⟩ = some (.int .i64 nx.1.2)) (simp [go_sem, ↓IntWalk.iteOmega, *])
    (first | (go_at_call 12; (refine (H3.out _).mono ?_; rintro e w1 ⟨rfl, hb1⟩; obtain ⟨x3, rfl⟩ := hb1.get; clear hb1)) | (go_at_call 13; (refine (H4.out _).mono ?_; rintro e w1 ⟨rfl, hb1⟩; obtain ⟨x4, rfl⟩ := hb1.get; clear hb1)) | (go_at_call 14; (refine (works_any _).mono ?_; rintro e w1 ⟨rfl, hb1⟩; obtain ⟨x5, rfl⟩ := hb1.get; clear hb1)))
  all_goals go_wp2
  all_goals go_ret
  all_goals exact ⟨rfl, by repeat (first | exact Ext.refl' _ | assumption | apply Ext.ex' | apply Ext.al | apply Ext.drN | apply Ext.dr)⟩

set_option maxHeartbeats 2000000 in
theorem lawCheck_any (A : Option Addr) (c : Nat) (l : List (Int × Int)) (w : World) (hr : Rd w 2 A l.length (pc l)) (hl : l.length ≤ 9223372036854775807) :
    Calls Try.prog 4 #[.slice A l.length c] w fun e w' => e = .returned (.bool true) ∧ Ext w w' := by
  go_enter Try.func4, Try.ntmps4
  go_wp2_with (first | (go_at_call 15; (refine (ccheck_any _ _ _ _ (hr.ext (by repeat (first | exact Ext.refl' _ | assumption | apply Ext.ex' | apply Ext.al | apply Ext.drN | apply Ext.dr))) hl).mono ?_; rintro e w1 ⟨rfl, hb1⟩; obtain ⟨x1, rfl⟩ := hb1.get; clear hb1)) | (go_at_call 16; (refine (rcheck_any _ _ _ _ (hr.ext (by repeat (first | exact Ext.refl' _ | assumption | apply Ext.ex' | apply Ext.al | apply Ext.drN | apply Ext.dr))) hl).mono ?_; rintro e w1 ⟨rfl, hb1⟩; obtain ⟨x2, rfl⟩ := hb1.get; clear hb1)) | (go_at_call 14; (refine (works_any _).mono ?_; rintro e w1 ⟨rfl, hb1⟩; obtain ⟨x5, rfl⟩ := hb1.get; clear hb1)))
  all_goals go_ret
  all_goals exact ⟨rfl, by repeat (first | exact Ext.refl' _ | assumption | apply Ext.ex' | apply Ext.al | apply Ext.drN | apply Ext.dr)⟩
end Go.Proofs.Ytfimkjponcnlmaa
