/- The walks of the laws ClockSteps, ClockShown and ClockReplay. -/
import Derived.Test.YtfimkjponcnlmaaClkV
import Derived.Test.YtfimkjponcnlmaaClkP
set_option linter.unusedSimpArgs false
set_option linter.unusedVariables false
namespace Go.Proofs.Ytfimkjponcnlmaa
open Go.RowKit

set_option maxHeartbeats 2000000 in
theorem lawSteps_any (A : Option Addr) (c : Nat) (l : List (Int × Int)) (time : Int) (w : World) (hr : Rd w 2 A l.length (pc l)) (hl : l.length * 16 ≤ 140737488351232) :
    Calls Try.prog 5 #[.slice A l.length c, .int .i64 time] w fun e w' => e = .returned (.bool true) ∧ Ext w w' := by
  have HL : Hid (l.length ≤ 9223372036854775807) := Lib.hid (by omega)
  have HL2 := Lib.hid hl
  have HS : Hid ((steps l).length ≤ 9223372036854775807) := Lib.hid (by have := steps_le l; omega)
  have H1 := Lib.hid (fun w h => clatest_any A c l time w h HL.out)
  have H2 := Lib.hid (fun w h => rlatest_any A c l time w h HL.out)
  have H3 := Lib.hid (fun w h => csteps_any A c l w h hl)
  have H4 := Lib.hid (fun w h => rsteps_any A c l w h hl)
  generalize latest time l = la at H1 H2
  generalize steps l = st at H3 H4 HS
  go_enter Try.func5, Try.ntmps5
  go_wp2_with (first | (go_at_call 17; (refine (H1.out _ (hr.ext (by repeat (first | exact Ext.refl' _ | assumption | apply Ext.ex' | apply Ext.al | apply Ext.drN | apply Ext.dr)))).mono ?_; rintro e w1 ⟨rfl, hb1⟩; obtain ⟨x1, rfl⟩ := hb1.get; clear hb1)) | (go_at_call 18; (refine (H2.out _ (hr.ext (by repeat (first | exact Ext.refl' _ | assumption | apply Ext.ex' | apply Ext.al | apply Ext.drN | apply Ext.dr)))).mono ?_; rintro e w1 ⟨rfl, hb1⟩; obtain ⟨x2, rfl⟩ := hb1.get; clear hb1)) | (go_at_call 20; (refine (H3.out _ (hr.ext (by repeat (first | exact Ext.refl' _ | assumption | apply Ext.ex' | apply Ext.al | apply Ext.drN | apply Ext.dr)))).mono ?_; rintro e w1 ⟨v3, rfl, hb1, ho3⟩; obtain ⟨x3, rfl⟩ := hb1.get; obtain ⟨A3, c3, rfl, hl3, hm3⟩ := Own.form ho3; have hR3 := Rd.of_own ho3; clear hb1 ho3 hl3 hm3)) | (go_at_call 21; (refine (H4.out _ (hr.ext (by repeat (first | exact Ext.refl' _ | assumption | apply Ext.ex' | apply Ext.al | apply Ext.drN | apply Ext.dr)))).mono ?_; rintro e w1 ⟨v4, rfl, hb1, ho4⟩; obtain ⟨x4, rfl⟩ := hb1.get; obtain ⟨A4, c4, rfl, hl4, hm4⟩ := Own.form ho4; have hR4 := Rd.of_own ho4; clear hb1 ho4 hl4 hm4)) | (go_at_call 19; (refine (ints_any _ _ _ _ st st _ (hR3.ext (by repeat (first | exact Ext.refl' _ | assumption | apply Ext.ex' | apply Ext.al | apply Ext.drN | apply Ext.dr))) (hR4.ext (by repeat (first | exact Ext.refl' _ | assumption | apply Ext.ex' | apply Ext.al | apply Ext.drN | apply Ext.dr))) HS.out HS.out).mono ?_; rintro e w1 ⟨rfl, hb1⟩; obtain ⟨x5, rfl⟩ := hb1.get; clear hb1)) | (go_at_call 14; (refine (works_any _).mono ?_; rintro e w1 ⟨rfl, hb1⟩; obtain ⟨x6, rfl⟩ := hb1.get; clear hb1)))
  all_goals go_ret
  all_goals exact ⟨rfl, by repeat (first | exact Ext.refl' _ | assumption | apply Ext.ex' | apply Ext.al | apply Ext.drN | apply Ext.dr)⟩

set_option maxHeartbeats 2000000 in
theorem lawShown_any (A : Option Addr) (c : Nat) (l : List (Int × Int)) (wall : Int) (w : World) (hr : Rd w 2 A l.length (pc l)) (hl : l.length * 16 ≤ 140737488351232) :
    Calls Try.prog 6 #[.slice A l.length c, .int .i64 wall] w fun e w' => e = .returned (.bool true) ∧ Ext w w' := by
  have HS : Hid ((shown l wall).length ≤ 9223372036854775807) := Lib.hid (by have := shown_length l wall; omega)
  have H3 := Lib.hid (fun w h => cshown_any A c l wall w h hl)
  have H4 := Lib.hid (fun w h => rshown_any A c l wall w h hl)
  rw [← shown_eq l wall] at H4
  generalize shown l wall = st at H3 H4 HS
  go_enter Try.func6, Try.ntmps6
  go_wp2_with (first | (go_at_call 23; (refine (H3.out _ (hr.ext (by repeat (first | exact Ext.refl' _ | assumption | apply Ext.ex' | apply Ext.al | apply Ext.drN | apply Ext.dr)))).mono ?_; rintro e w1 ⟨v3, rfl, hb1, ho3⟩; obtain ⟨x3, rfl⟩ := hb1.get; obtain ⟨A3, c3, rfl, hl3, hm3⟩ := Own.form ho3; have hR3 := Rd.of_own ho3; clear hb1 ho3 hl3 hm3)) | (go_at_call 24; (refine (H4.out _ (hr.ext (by repeat (first | exact Ext.refl' _ | assumption | apply Ext.ex' | apply Ext.al | apply Ext.drN | apply Ext.dr)))).mono ?_; rintro e w1 ⟨v4, rfl, hb1, ho4⟩; obtain ⟨x4, rfl⟩ := hb1.get; obtain ⟨A4, c4, rfl, hl4, hm4⟩ := Own.form ho4; have hR4 := Rd.of_own ho4; clear hb1 ho4 hl4 hm4)) | (go_at_call 22; (refine (periods_any _ _ _ _ st st _ (hR3.ext (by repeat (first | exact Ext.refl' _ | assumption | apply Ext.ex' | apply Ext.al | apply Ext.drN | apply Ext.dr))) (hR4.ext (by repeat (first | exact Ext.refl' _ | assumption | apply Ext.ex' | apply Ext.al | apply Ext.drN | apply Ext.dr))) HS.out HS.out).mono ?_; rintro e w1 ⟨rfl, hb1⟩; obtain ⟨x5, rfl⟩ := hb1.get; clear hb1)) | (go_at_call 14; (refine (works_any _).mono ?_; rintro e w1 ⟨rfl, hb1⟩; obtain ⟨x6, rfl⟩ := hb1.get; clear hb1)))
  all_goals go_ret
  all_goals exact ⟨rfl, by repeat (first | exact Ext.refl' _ | assumption | apply Ext.ex' | apply Ext.al | apply Ext.drN | apply Ext.dr)⟩

set_option maxHeartbeats 2000000 in
theorem lawReplay_any (A : Option Addr) (c : Nat) (l : List Int) (w : World) (hr : Rd w 1 A l.length (ic l)) (hl : l.length * 8 ≤ 140737488351232) :
    Calls Try.prog 7 #[.slice A l.length c] w fun e w' => e = .returned (.bool true) ∧ Ext w w' := by
  have HS : Hid ((rpl (0, 0) [] l).1.length ≤ 9223372036854775807) := Lib.hid (by have := rpl_length l (0, 0) []; simp at this; omega)
  have H3 := Lib.hid (fun w h => creplay_any A c l w h hl)
  have H4 := Lib.hid (fun w h => rreplay_any A c l w h hl)
  generalize rpl (0, 0) [] l = st at H3 H4 HS
  go_enter Try.func7, Try.ntmps7
  go_wp2_with (first | (go_at_call 25; (refine (H3.out _ (hr.ext (by repeat (first | exact Ext.refl' _ | assumption | apply Ext.ex' | apply Ext.al | apply Ext.drN | apply Ext.dr)))).mono ?_; rintro e w1 ⟨v3, rfl, hb1, ho3⟩; obtain ⟨x3, rfl⟩ := hb1.get; obtain ⟨A3, c3, rfl, hl3, hm3⟩ := Own.form ho3; have hR3 := Rd.of_own ho3; clear hb1 ho3 hl3 hm3)) | (go_at_call 26; (refine (H4.out _ (hr.ext (by repeat (first | exact Ext.refl' _ | assumption | apply Ext.ex' | apply Ext.al | apply Ext.drN | apply Ext.dr)))).mono ?_; rintro e w1 ⟨v4, rfl, hb1, ho4⟩; obtain ⟨x4, rfl⟩ := hb1.get; obtain ⟨A4, c4, rfl, hl4, hm4⟩ := Own.form ho4; have hR4 := Rd.of_own ho4; clear hb1 ho4 hl4 hm4)) | (go_at_call 27; (refine (stamps_any _ _ _ _ st.1 st.1 _ (hR3.ext (by repeat (first | exact Ext.refl' _ | assumption | apply Ext.ex' | apply Ext.al | apply Ext.drN | apply Ext.dr))) (hR4.ext (by repeat (first | exact Ext.refl' _ | assumption | apply Ext.ex' | apply Ext.al | apply Ext.drN | apply Ext.dr))) HS.out HS.out).mono ?_; rintro e w1 ⟨rfl, hb1⟩; obtain ⟨x5, rfl⟩ := hb1.get; clear hb1)) | (go_at_call 14; (refine (works_any _).mono ?_; rintro e w1 ⟨rfl, hb1⟩; obtain ⟨x6, rfl⟩ := hb1.get; clear hb1)))
  all_goals go_ret
  all_goals exact ⟨rfl, by repeat (first | exact Ext.refl' _ | assumption | apply Ext.ex' | apply Ext.al | apply Ext.drN | apply Ext.dr)⟩
end Go.Proofs.Ytfimkjponcnlmaa
