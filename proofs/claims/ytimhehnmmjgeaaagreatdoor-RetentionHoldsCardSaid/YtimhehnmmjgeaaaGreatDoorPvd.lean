/- Valid periods, in plain words. -/
set_option linter.unusedSimpArgs false
set_option linter.unusedVariables false
namespace Go.Proofs.YtimhehnmmjgeaaaGreatDoor

/-- a period is valid: 0 ≤ from < to ≤ 2^40 -/
def pvB (p : Int × Int) : Bool := decide (0 ≤ p.1) && decide (p.1 < p.2) && decide (p.2 ≤ 1099511627776)
theorem pvB_iff {p : Int × Int} : pvB p = true ↔ 0 ≤ p.1 ∧ p.1 < p.2 ∧ p.2 ≤ 1099511627776 := by
  unfold pvB; simp only [Bool.and_eq_true, decide_eq_true_eq, and_assoc]

/-- a valid period contains an instant -/
def inP (p : Int × Int) (t : Int) : Bool := pvB p && decide (p.1 ≤ t) && decide (t < p.2)
theorem inP_iff {p : Int × Int} {t : Int} : inP p t = true ↔ 0 ≤ p.1 ∧ p.1 ≤ t ∧ t < p.2 ∧ p.2 ≤ 1099511627776 := by
  unfold inP; simp only [Bool.and_eq_true, decide_eq_true_eq, pvB_iff]; omega

/-- a list stands for an instant -/
def inL (l : List (Int × Int)) (t : Int) : Bool := l.any (inP · t)
theorem inL_iff {l : List (Int × Int)} {t : Int} : inL l t = true ↔ ∃ p ∈ l, inP p t = true := by
  unfold inL; simp [List.any_eq_true]
theorem inL_cons (p : Int × Int) (l : List (Int × Int)) (t : Int) : inL (p :: l) t = (inP p t || inL l t) := by simp [inL]
theorem inL_append (a b : List (Int × Int)) (t : Int) : inL (a ++ b) t = (inL a t || inL b t) := by simp [inL]
theorem inL_nil (t : Int) : inL [] t = false := rfl
theorem inL_rng {l : List (Int × Int)} {t : Int} (h : inL l t = true) : 0 ≤ t ∧ t < 1099511627776 := by
  obtain ⟨p, _, hp⟩ := inL_iff.1 h
  have := inP_iff.1 hp
  omega
theorem bool_eq {a b : Bool} (h : a = true ↔ b = true) : a = b := by
  cases a <;> cases b <;> simp_all
end Go.Proofs.YtimhehnmmjgeaaaGreatDoor
