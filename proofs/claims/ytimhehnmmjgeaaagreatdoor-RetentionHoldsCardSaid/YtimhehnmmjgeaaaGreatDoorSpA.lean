/- The contracts of the small functions of periods and spans, of the program and of the reference. -/
import Derived.Test.YtimhehnmmjgeaaaGreatDoorBase
import Derived.Test.YtimhehnmmjgeaaaGreatDoorOwn
import Derived.Test.YtimhehnmmjgeaaaGreatDoorSpQ
import Derived.StillTailTactics
set_option linter.unusedSimpArgs false
set_option linter.unusedVariables false
namespace Go.Proofs.YtimhehnmmjgeaaaGreatDoor
open Go.RowKit


/-- a struct of two ints -/
abbrev pr (p : Int × Int) : Value := .agg #[.int .i64 p.1, .int .i64 p.2]
theorem ne_i {a b : Int} (h : (a != b) = true) : a ≠ b := by simpa using h
theorem eq_i {a b : Int} (h : (a != b) = false) : a = b := by simpa using h
theorem ne_p {a b : Int × Int} (h : (!a.1 == b.1) = true ∨ (!a.2 == b.2) = true) : a ≠ b := by
  rintro rfl; simp at h
theorem eq_p {a b : Int × Int} (h : (!a.1 == b.1) = false ∧ (!a.2 == b.2) = false) : a = b := by
  simp at h; exact Prod.ext h.1 h.2
theorem held_period : Tryz.prog.stoodInHeld 25 = false := by kernel_rfl
@[go_sem] theorem guard_period : Tryz.prog.eqGuardType Tryz.prog.depth 25 = false := by kernel_rfl
@[go_sem high] theorem neq_period (a b c d : Int) (w : World) : (binOp .neq 25 (.agg #[.int .i64 a, .int .i64 b]) (.agg #[.int .i64 c, .int .i64 d])).run Tryz.prog w = .ok (.bool (!(a == c && b == d))) w := by
  simp [go_sem, held_period, Tryz.underlying25]
  by_cases h1 : a = c <;> by_cases h2 : b = d <;> simp [h1, h2]
@[go_sem high] theorem eql_period (a b c d : Int) (w : World) : (binOp .eql 25 (.agg #[.int .i64 a, .int .i64 b]) (.agg #[.int .i64 c, .int .i64 d])).run Tryz.prog w = .ok (.bool (a == c && b == d)) w := by
  simp [go_sem, held_period, Tryz.underlying25]
  by_cases h1 : a = c <;> by_cases h2 : b = d <;> simp [h1, h2]
theorem elInt : El Tryz.prog 79 3 (.int .i64 0) 1 8 := ⟨Tryz.underlying79, info_parts (by kernel_rfl), rfl, by decide⟩
theorem elPeriod : El Tryz.prog 101 25 (.agg #[.int .i64 0, .int .i64 0]) 2 16 := ⟨Tryz.underlying101, info_parts (by kernel_rfl), rfl, by decide⟩

/-- a row that can be read -/
def RdP (sz n : Nat) (xs : List Value) (w : World) (e : Ending) (w' : World) : Prop := ∃ A c, e = .returned (.slice A n c) ∧ Ext w w' ∧ Rd w' sz A n xs
def povB (p q : Int × Int) : Bool := pvB p && pvB q && decide (p.1 < q.2) && decide (q.1 < p.2)
def pcoB (p q : Int × Int) : Bool := pvB p && pvB q && decide (p.1 ≤ q.1) && decide (q.2 ≤ p.2)


set_option maxHeartbeats 400000 in
theorem pvalid_any (p : Int × Int) (w : World) :
    Calls Tryz.prog 27 #[pr p] w fun e w' => e = .returned (.bool (pvB p)) ∧ Ext w w' := by
  go_enter Tryz.func27, Tryz.ntmps27
  go_wp2
  all_goals go_ret
  all_goals refine ⟨?_, Ext.al1 _ _⟩
  all_goals simp_all [pvB]
  all_goals omega


set_option maxHeartbeats 400000 in
theorem rvalid_any (p : Int × Int) (w : World) :
    Calls Tryz.prog 49 #[pr p] w fun e w' => e = .returned (.bool (pvB p)) ∧ Ext w w' := by
  go_enter Tryz.func49, Tryz.ntmps49
  go_wp2
  all_goals go_ret
  all_goals refine ⟨?_, Ext.al1 _ _⟩
  all_goals simp_all [pvB]
  all_goals omega

theorem inL_drop {l : List (Int × Int)} {k : Nat} (h : k < l.length) (t : Int) : inL (l.drop k) t = (inP l[k] t || inL (l.drop (k + 1)) t) := by
  rw [List.drop_eq_getElem_cons h, inL_cons]


theorem inP_t {p : Int × Int} {t : Int} (h : pvB p = true) (h1 : p.1 ≤ t) (h2 : t < p.2) : inP p t = true := by simp [inP, h, h1, h2]
theorem inP_f1 {p : Int × Int} {t : Int} (h : pvB p = false) : inP p t = false := by simp [inP, h]
theorem inP_f2 {p : Int × Int} {t : Int} (h : t < p.1) : inP p t = false := by simp [inP]; omega
theorem inP_f3 {p : Int × Int} {t : Int} (h : p.2 ≤ t) : inP p t = false := by simp [inP]; omega
end Go.Proofs.YtimhehnmmjgeaaaGreatDoor
