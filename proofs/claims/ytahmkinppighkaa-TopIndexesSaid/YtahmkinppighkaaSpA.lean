/- The contracts of the small functions of periods and spans, of the program and of the reference. -/
import Derived.Test.YtahmkinppighkaaBase
import Derived.Test.YtahmkinppighkaaOwn
import Derived.Test.YtahmkinppighkaaSpQ
import Derived.StillTailTactics
set_option linter.unusedSimpArgs false
set_option linter.unusedVariables false
namespace Go.Proofs.Ytahmkinppighkaa
open Go.RowKit


/-- a struct of two ints -/
abbrev pr (p : Int × Int) : Value := .agg #[.int .i64 p.1, .int .i64 p.2]
theorem ne_i {a b : Int} (h : (a != b) = true) : a ≠ b := by simpa using h
theorem eq_i {a b : Int} (h : (a != b) = false) : a = b := by simpa using h
theorem ne_p {a b : Int × Int} (h : (!a.1 == b.1) = true ∨ (!a.2 == b.2) = true) : a ≠ b := by
  rintro rfl; simp at h
theorem eq_p {a b : Int × Int} (h : (!a.1 == b.1) = false ∧ (!a.2 == b.2) = false) : a = b := by
  simp at h; exact Prod.ext h.1 h.2
theorem held_period : Try.prog.stoodInHeld 41 = false := by kernel_rfl
@[go_sem] theorem guard_period : Try.prog.eqGuardType Try.prog.depth 41 = false := by kernel_rfl
@[go_sem high] theorem neq_period (a b c d : Int) (w : World) : (binOp .neq 41 (.agg #[.int .i64 a, .int .i64 b]) (.agg #[.int .i64 c, .int .i64 d])).run Try.prog w = .ok (.bool (!(a == c && b == d))) w := by
  simp [go_sem, held_period, Try.underlying41]
  by_cases h1 : a = c <;> by_cases h2 : b = d <;> simp [h1, h2]
@[go_sem high] theorem eql_period (a b c d : Int) (w : World) : (binOp .eql 41 (.agg #[.int .i64 a, .int .i64 b]) (.agg #[.int .i64 c, .int .i64 d])).run Try.prog w = .ok (.bool (a == c && b == d)) w := by
  simp [go_sem, held_period, Try.underlying41]
  by_cases h1 : a = c <;> by_cases h2 : b = d <;> simp [h1, h2]
theorem elInt : El Try.prog 53 3 (.int .i64 0) 1 8 := ⟨Try.underlying53, info_parts (by kernel_rfl), rfl, by decide⟩
/-- a row that can be read -/
def RdP (sz n : Nat) (xs : List Value) (w : World) (e : Ending) (w' : World) : Prop := ∃ A c, e = .returned (.slice A n c) ∧ Ext w w' ∧ Rd w' sz A n xs
def povB (p q : Int × Int) : Bool := pvB p && pvB q && decide (p.1 < q.2) && decide (q.1 < p.2)
def pcoB (p q : Int × Int) : Bool := pvB p && pvB q && decide (p.1 ≤ q.1) && decide (q.2 ≤ p.2)


set_option maxHeartbeats 400000 in
theorem pvalid_any (p : Int × Int) (w : World) :
    Calls Try.prog 35 #[pr p] w fun e w' => e = .returned (.bool (pvB p)) ∧ Ext w w' := by
  go_enter Try.func35, Try.ntmps35
  go_wp2
  all_goals go_ret
  all_goals refine ⟨?_, Ext.al1 _ _⟩
  all_goals simp_all [pvB]
  all_goals omega


set_option maxHeartbeats 400000 in
theorem rvalid_any (p : Int × Int) (w : World) :
    Calls Try.prog 72 #[pr p] w fun e w' => e = .returned (.bool (pvB p)) ∧ Ext w w' := by
  go_enter Try.func72, Try.ntmps72
  go_wp2
  all_goals go_ret
  all_goals refine ⟨?_, Ext.al1 _ _⟩
  all_goals simp_all [pvB]
  all_goals omega

set_option maxHeartbeats 400000 in
theorem roverlaps_any (p q : Int × Int) (w : World) : Calls Try.prog 50 #[pr p, pr q] w fun e w' => e = .returned (.bool (povB p q)) ∧ Ext w w' := by
  go_enter Try.func50, Try.ntmps50
  go_wp2_with (go_at_call 72; refine (rvalid_any _ _).mono ?_; rintro e w1 ⟨rfl, hb1⟩; obtain ⟨x1, rfl⟩ := hb1.get; clear hb1)
  all_goals go_ret
  all_goals refine ⟨?_, by repeat (first | exact Ext.refl' _ | assumption | apply Ext.ex' | apply Ext.al | apply Ext.drN | apply Ext.dr)⟩
  all_goals simp_all [povB]
  all_goals omega

theorem inL_drop {l : List (Int × Int)} {k : Nat} (h : k < l.length) (t : Int) : inL (l.drop k) t = (inP l[k] t || inL (l.drop (k + 1)) t) := by
  rw [List.drop_eq_getElem_cons h, inL_cons]


theorem inP_t {p : Int × Int} {t : Int} (h : pvB p = true) (h1 : p.1 ≤ t) (h2 : t < p.2) : inP p t = true := by simp [inP, h, h1, h2]
theorem inP_f1 {p : Int × Int} {t : Int} (h : pvB p = false) : inP p t = false := by simp [inP, h]
theorem inP_f2 {p : Int × Int} {t : Int} (h : t < p.1) : inP p t = false := by simp [inP]; omega
theorem inP_f3 {p : Int × Int} {t : Int} (h : p.2 ≤ t) : inP p t = false := by simp [inP]; omega
end Go.Proofs.Ytahmkinppighkaa
