/- The contract of works: the chapter's examples. -/
import Derived.Test.YtfimkjponcnlmaaClkZ
set_option linter.unusedSimpArgs false
set_option linter.unusedVariables false
namespace Go.Proofs.Ytfimkjponcnlmaa
open Go.RowKit

abbrev wkL : List (Int × Int) := [(5, 5), (6, 3), (9, 9)]
theorem wk_next (w : World) : Calls Try.prog 10 #[.agg #[.int .i64 80, .int .i64 80], .int .i64 50] w fun e w' => e = .returned (.tuple #[.agg #[.int .i64 81, .int .i64 50], .int .i64 81, .int .i64 0]) ∧ Ext w w' := by
  have h := cnext_any (80, 80) 50 w
  rw [show nextF (80, 80) 50 = ((81, 50), 81, 0) from by decide] at h
  exact h
theorem wk_replay (A : Option Addr) (c : Nat) (w : World) (hr : Rd w 1 A 3 (ic [5, 3, 9])) : Calls Try.prog 25 #[.slice A 3 c] w fun e w' => ∃ A' c', e = .returned (.tuple #[.slice A' 3 c', .int .i64 0]) ∧ Ext w w' ∧ Rd w' 2 A' 3 (pc wkL) := by
  refine (creplay_any A c [5, 3, 9] w hr (by decide)).mono fun e w' ⟨v, he, hx, ho⟩ => ?_
  rw [show rpl (0, 0) [] [5, 3, 9] = (wkL, 0) from by decide] at he ho
  obtain ⟨x, rfl⟩ := hx.get
  obtain ⟨A', c', rfl, h1, h2⟩ := Own.form ho
  exact ⟨A', c', he, hx, Rd.of_own ho⟩
theorem wk_latest (A : Option Addr) (c : Nat) (w : World) (hr : Rd w 2 A 3 (pc wkL)) : Calls Try.prog 17 #[.slice A 3 c, .int .i64 8] w fun e w' => e = .returned (.tuple #[.agg #[.int .i64 6, .int .i64 3], .bool true]) ∧ Ext w w' := by
  have h := clatest_any A c wkL 8 w hr (by decide)
  rw [show latest 8 wkL = ((6, 3), true) from by decide] at h
  exact h
theorem wk_stamps (A B : Option Addr) (c d : Nat) (w : World) (hr : Rd w 2 A 3 (pc wkL)) (hs : Rd w 2 B 3 (pc wkL)) : Calls Try.prog 27 #[.slice A 3 c, .slice B 3 d] w fun e w' => e = .returned (.bool true) ∧ Ext w w' := by
  have h := stamps_any A B c d wkL wkL w hr hs (by decide) (by decide)
  simpa using h
theorem wk_steps (A : Option Addr) (c : Nat) (w : World) (hr : Rd w 2 A 3 (pc wkL)) : Calls Try.prog 20 #[.slice A 3 c] w fun e w' => ∃ A' c', e = .returned (.slice A' 1 c') ∧ Ext w w' ∧ Rd w' 1 A' 1 (ic [1]) := by
  refine (csteps_any A c wkL w hr (by decide)).mono fun e w' ⟨v, he, hx, ho⟩ => ?_
  rw [show steps wkL = [1] from by decide] at ho
  obtain ⟨x, rfl⟩ := hx.get
  obtain ⟨A', c', rfl, h1, h2⟩ := Own.form ho
  exact ⟨A', c', he, hx, Rd.of_own ho⟩
theorem wk_ints (A B : Option Addr) (c d : Nat) (w : World) (hr : Rd w 1 A 1 (ic [1])) (hs : Rd w 1 B 1 (ic [1])) : Calls Try.prog 19 #[.slice A 1 c, .slice B 1 d] w fun e w' => e = .returned (.bool true) ∧ Ext w w' := by
  have h := ints_any A B c d [1] [1] w hr hs (by decide) (by decide)
  simpa using h
theorem wk_shown (A : Option Addr) (c : Nat) (w : World) (hr : Rd w 2 A 3 (pc wkL)) : Calls Try.prog 23 #[.slice A 3 c, .int .i64 4] w fun e w' => ∃ A' c', e = .returned (.slice A' 2 c') ∧ Ext w w' ∧ Rd w' 2 A' 2 (pc [(0, 5), (6, 9)]) := by
  refine (cshown_any A c wkL 4 w hr (by decide)).mono fun e w' ⟨v, he, hx, ho⟩ => ?_
  rw [show shown wkL 4 = [(0, 5), (6, 9)] from by decide] at ho
  obtain ⟨x, rfl⟩ := hx.get
  obtain ⟨A', c', rfl, h1, h2⟩ := Own.form ho
  exact ⟨A', c', he, hx, Rd.of_own ho⟩
theorem wk_periods (A B : Option Addr) (c d : Nat) (w : World) (hr : Rd w 2 A 2 (pc [(0, 5), (6, 9)])) (hs : Rd w 2 B 2 (pc [(0, 5), (6, 9)])) : Calls Try.prog 22 #[.slice A 2 c, .slice B 2 d] w fun e w' => e = .returned (.bool true) ∧ Ext w w' := by
  have h := periods_any A B c d [(0, 5), (6, 9)] [(0, 5), (6, 9)] w hr hs (by decide) (by decide)
  simpa using h
theorem wk_behind (w : World) : Calls Try.prog 12 #[.agg #[.int .i64 80, .int .i64 80], .int .i64 50] w fun e w' => e = .returned (.int .i64 30) ∧ Ext w w' := by
  have h := cbehind_any (80, 80) 50 w
  rw [show behindF (80, 80) 50 = 30 from by decide] at h
  exact h

set_option maxHeartbeats 1000000 in
theorem works_any (w : World) : Calls Try.prog 14 #[] w fun e w' => e = .returned (.bool true) ∧ Ext w w' := by
  go_enter Try.func14, Try.ntmps14
  go_wp2_with (first
    | (go_at_call 10; (refine (wk_next _).mono ?_; rintro e w1 ⟨rfl, hb1⟩; obtain ⟨x1, rfl⟩ := hb1.get; clear hb1))
    | (go_at_call 25; (refine (wk_replay _ _ _ (Rd.lit _ #[.int .i64 5, .int .i64 3, .int .i64 9] _ 3 1 rfl (by simp [size_ext]))).mono ?_; rintro e w1 ⟨A1, c1, rfl, hb1, hR1⟩; have hE1 : Ext w w1 := Ext.tr (by repeat (first | exact Ext.refl' _ | assumption | apply Ext.ex' | apply Ext.al | apply Ext.drN | apply Ext.dr)) hb1; have hz := hb1.size; simp [size_ext] at hz; have hq0 : w1.cell? ⟨w.heap.size + x1.n, 0, none⟩ = some (.int .i64 81) := Ext.cell' hb1 (by simp [go_sem, ↓IntWalk.iteOmega]); have hq1 : w1.cell? ⟨w.heap.size + x1.n, 1, none⟩ = some (.int .i64 50) := Ext.cell' hb1 (by simp [go_sem, ↓IntWalk.iteOmega]); clear hb1))
    | (go_at_call 17; (refine (wk_latest _ _ _ (hR1.ext (by repeat (first | exact Ext.refl' _ | assumption | apply Ext.ex' | apply Ext.al | apply Ext.drN | apply Ext.dr)))).mono ?_; rintro e w2 ⟨rfl, hb1⟩; obtain ⟨x2, rfl⟩ := hb1.get; clear hb1))
    | (go_at_call 27; (refine (wk_stamps _ _ _ _ _ (hR1.ext (by repeat (first | exact Ext.refl' _ | assumption | apply Ext.ex' | apply Ext.al | apply Ext.drN | apply Ext.dr))) (Rd.lit _ #[.int .i64 5, .int .i64 5, .int .i64 6, .int .i64 3, .int .i64 9, .int .i64 9] _ 3 2 rfl (by simp [size_ext]))).mono ?_; rintro e w2 ⟨rfl, hb1⟩; obtain ⟨x3, rfl⟩ := hb1.get; clear hb1))
    | (go_at_call 20; (refine (wk_steps _ _ _ (hR1.ext (by repeat (first | exact Ext.refl' _ | assumption | apply Ext.ex' | apply Ext.al | apply Ext.drN | apply Ext.dr)))).mono ?_; rintro e w2 ⟨A4, c4, rfl, hb1, hR4⟩; obtain ⟨x4, rfl⟩ := hb1.get; clear hb1))
    | (go_at_call 19; (refine (wk_ints _ _ _ _ _ (hR4.ext (by repeat (first | exact Ext.refl' _ | assumption | apply Ext.ex' | apply Ext.al | apply Ext.drN | apply Ext.dr))) (Rd.lit _ #[.int .i64 1] _ 1 1 rfl (by simp [size_ext]))).mono ?_; rintro e w2 ⟨rfl, hb1⟩; obtain ⟨x5, rfl⟩ := hb1.get; clear hb1))
    | (go_at_call 23; (refine (wk_shown _ _ _ (hR1.ext (by repeat (first | exact Ext.refl' _ | assumption | apply Ext.ex' | apply Ext.al | apply Ext.drN | apply Ext.dr)))).mono ?_; rintro e w2 ⟨A6, c6, rfl, hb1, hR6⟩; obtain ⟨x6, rfl⟩ := hb1.get; clear hb1))
    | (go_at_call 22; (refine (wk_periods _ _ _ _ _ (hR6.ext (by repeat (first | exact Ext.refl' _ | assumption | apply Ext.ex' | apply Ext.al | apply Ext.drN | apply Ext.dr))) (Rd.lit _ #[.int .i64 0, .int .i64 5, .int .i64 6, .int .i64 9] _ 2 2 rfl (by simp [size_ext]))).mono ?_; rintro e w2 ⟨rfl, hb1⟩; obtain ⟨x7, rfl⟩ := hb1.get; clear hb1))
    | (go_at_call 12; (refine (wk_behind _).mono ?_; rintro e w2 ⟨rfl, hb1⟩; obtain ⟨x8, rfl⟩ := hb1.get; clear hb1)))

  go_ret
  exact ⟨rfl, by repeat (first | exact Ext.refl' _ | assumption | apply Ext.ex' | apply Ext.al | apply Ext.drN | apply Ext.dr)⟩
end Go.Proofs.Ytfimkjponcnlmaa
