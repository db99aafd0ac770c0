/- The contracts of the clock's small functions, of package clock and of the reference: a reading, a valid clock, Next, Behind. -/
import Derived.Test.YtfimkjponcnlmaaPer
set_option linter.unusedSimpArgs false
set_option linter.unusedVariables false
namespace Go.Proofs.Ytfimkjponcnlmaa
open Go.RowKit

def instB (n : Int) : Bool := decide (0 ≤ n) && decide (n < 1099511627776)
def cvB (c : Int × Int) : Bool := decide (0 ≤ c.2) && decide (c.2 ≤ c.1) && decide (c.1 < 1099511627776)
theorem cv_le {c : Int × Int} (h : cvB c = true) : 0 ≤ c.2 ∧ c.2 ≤ c.1 ∧ c.1 < 1099511627776 := by
  simp [cvB] at h; omega
theorem inst_le {n : Int} (h : instB n = true) : 0 ≤ n ∧ n < 1099511627776 := by
  simp [instB] at h; omega
def mx (a b : Int) : Int := if a < b then b else a
def nextF (c : Int × Int) (x : Int) : (Int × Int) × Int × Int :=
  if cvB c = false then ((0, 0), 0, 8) else if instB x = false then ((0, 0), 0, 6) else
  if 1099511627776 ≤ mx (c.1 + 1) x then ((0, 0), 0, 21) else ((mx (c.1 + 1) x, x), mx (c.1 + 1) x, 0)
def behindF (c : Int × Int) (x : Int) : Int := if cvB c && instB x && decide (x < c.1) then c.1 - x else 0


set_option maxHeartbeats 400000 in
theorem cinst_any (n : Int) (w : World) :
    Calls Try.prog 29 #[.int .i64 n] w fun e w' => e = .returned (.bool (instB n)) ∧ w = w' := by
  go_enter Try.func29, Try.ntmps29
  go_wp2
  all_goals go_ret
  all_goals refine ⟨?_, rfl⟩
  all_goals simp_all [instB]
  all_goals omega

set_option maxHeartbeats 400000 in
theorem cvalid_any (c : Int × Int) (w : World) :
    Calls Try.prog 28 #[pr c] w fun e w' => e = .returned (.bool (cvB c)) ∧ Ext w w' := by
  go_enter Try.func28, Try.ntmps28
  go_wp2
  all_goals go_ret
  all_goals refine ⟨?_, Ext.al1 _ _⟩
  all_goals simp_all [cvB]
  all_goals omega

set_option maxHeartbeats 800000 in
theorem cnext_any (c : Int × Int) (x : Int) (w : World) :
    Calls Try.prog 10 #[pr c, .int .i64 x] w fun e w' => e = .returned (.tuple #[pr (nextF c x).1, .int .i64 (nextF c x).2.1, .int .i64 (nextF c x).2.2]) ∧ Ext w w' := by
  go_enter Try.func10, Try.ntmps10
  by_cases hv : cvB c = true
  case' pos => have hcl := cv_le hv
  all_goals by_cases hi : instB x = true
  all_goals go_wp2_with (first
    | (go_at_call 28; refine (cvalid_any _ _).mono ?_; rintro e w1 ⟨rfl, hb1⟩; obtain ⟨x1, rfl⟩ := hb1.get; clear hb1)
    | (go_at_call 29; refine (cinst_any _ _).mono ?_; rintro e w1 ⟨rfl, rfl⟩))
  all_goals refine bodyPost_ret (v := .tuple #[pr (nextF c x).1, .int .i64 (nextF c x).2.1, .int .i64 (nextF c x).2.2]) ?_ rfl ⟨rfl, by repeat (first | exact Ext.refl' _ | apply Ext.ex' | apply Ext.al)⟩
  all_goals simp [results, Try.results10, go_sem, ↓IntWalk.iteOmega]
  all_goals simp_all [nextF, mx]
  all_goals (repeat' split)
  all_goals first | omega | (simp_all; done) | (simp_all; omega)

set_option maxHeartbeats 800000 in
theorem cbehind_any (c : Int × Int) (x : Int) (w : World) :
    Calls Try.prog 12 #[pr c, .int .i64 x] w fun e w' => e = .returned (.int .i64 (behindF c x)) ∧ Ext w w' := by
  go_enter Try.func12, Try.ntmps12
  have hcs : (cvB c = true ∧ instB x = true ∧ 0 ≤ c.2 ∧ c.2 ≤ c.1 ∧ c.1 < 1099511627776 ∧ 0 ≤ x ∧ x < 1099511627776) ∨ (cvB c = true ∧ instB x = false) ∨ cvB c = false := by
    rcases hv : cvB c with _ | _
    · simp
    · rcases hi : instB x with _ | _
      · simp
      · have := cv_le hv; have := inst_le hi; simp; omega
  rcases hcs with ⟨hv, hi, h1, h2, h3, h4, h5⟩ | ⟨hv, hi⟩ | hv
  all_goals go_wp2_with (first
    | (go_at_call 28; refine (cvalid_any _ _).mono ?_; rintro e w1 ⟨rfl, hb1⟩; obtain ⟨x1, rfl⟩ := hb1.get; clear hb1)
    | (go_at_call 29; refine (cinst_any _ _).mono ?_; rintro e w1 ⟨rfl, rfl⟩))
  all_goals go_ret
  all_goals refine ⟨?_, by repeat (first | exact Ext.refl' _ | apply Ext.ex' | apply Ext.al)⟩
  all_goals simp_all [behindF]
  all_goals omega


set_option maxHeartbeats 400000 in
theorem rinst_any (n : Int) (w : World) :
    Calls Try.prog 31 #[.int .i64 n] w fun e w' => e = .returned (.bool (instB n)) ∧ w = w' := by
  go_enter Try.func31, Try.ntmps31
  go_wp2
  all_goals go_ret
  all_goals refine ⟨?_, rfl⟩
  all_goals simp_all [instB]
  all_goals omega

set_option maxHeartbeats 400000 in
theorem rvalid_any (c : Int × Int) (w : World) :
    Calls Try.prog 30 #[pr c] w fun e w' => e = .returned (.bool (cvB c)) ∧ Ext w w' := by
  go_enter Try.func30, Try.ntmps30
  go_wp2
  all_goals go_ret
  all_goals refine ⟨?_, Ext.al1 _ _⟩
  all_goals simp_all [cvB]
  all_goals omega

set_option maxHeartbeats 800000 in
theorem rnext_any (c : Int × Int) (x : Int) (w : World) :
    Calls Try.prog 11 #[pr c, .int .i64 x] w fun e w' => e = .returned (.tuple #[pr (nextF c x).1, .int .i64 (nextF c x).2.1, .int .i64 (nextF c x).2.2]) ∧ Ext w w' := by
  go_enter Try.func11, Try.ntmps11
  by_cases hv : cvB c = true
  case' pos => have hcl := cv_le hv
  all_goals by_cases hi : instB x = true
  all_goals go_wp2_with (first
    | (go_at_call 30; refine (rvalid_any _ _).mono ?_; rintro e w1 ⟨rfl, hb1⟩; obtain ⟨x1, rfl⟩ := hb1.get; clear hb1)
    | (go_at_call 31; refine (rinst_any _ _).mono ?_; rintro e w1 ⟨rfl, rfl⟩))
  all_goals refine bodyPost_ret (v := .tuple #[pr (nextF c x).1, .int .i64 (nextF c x).2.1, .int .i64 (nextF c x).2.2]) ?_ rfl ⟨rfl, by repeat (first | exact Ext.refl' _ | apply Ext.ex' | apply Ext.al)⟩
  all_goals simp [results, Try.results11, go_sem, ↓IntWalk.iteOmega]
  all_goals simp_all [nextF, mx]
  all_goals (repeat' split)
  all_goals first | omega | (simp_all; done) | (simp_all; omega)

set_option maxHeartbeats 800000 in
theorem rbehind_any (c : Int × Int) (x : Int) (w : World) :
    Calls Try.prog 13 #[pr c, .int .i64 x] w fun e w' => e = .returned (.int .i64 (behindF c x)) ∧ Ext w w' := by
  go_enter Try.func13, Try.ntmps13
  have hcs : (cvB c = true ∧ instB x = true ∧ 0 ≤ c.2 ∧ c.2 ≤ c.1 ∧ c.1 < 1099511627776 ∧ 0 ≤ x ∧ x < 1099511627776) ∨ (cvB c = true ∧ instB x = false) ∨ cvB c = false := by
    rcases hv : cvB c with _ | _
    · simp
    · rcases hi : instB x with _ | _
      · simp
      · have := cv_le hv; have := inst_le hi; simp; omega
  rcases hcs with ⟨hv, hi, h1, h2, h3, h4, h5⟩ | ⟨hv, hi⟩ | hv
  all_goals go_wp2_with (first
    | (go_at_call 30; refine (rvalid_any _ _).mono ?_; rintro e w1 ⟨rfl, hb1⟩; obtain ⟨x1, rfl⟩ := hb1.get; clear hb1)
    | (go_at_call 31; refine (rinst_any _ _).mono ?_; rintro e w1 ⟨rfl, rfl⟩))
  all_goals go_ret
  all_goals refine ⟨?_, by repeat (first | exact Ext.refl' _ | apply Ext.ex' | apply Ext.al)⟩
  all_goals simp_all [behindF]
  all_goals omega

end Go.Proofs.Ytfimkjponcnlmaa
