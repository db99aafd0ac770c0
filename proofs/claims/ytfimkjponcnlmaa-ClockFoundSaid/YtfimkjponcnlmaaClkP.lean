/- The plain laws of chapter 6: Shown of the program and of the reference are one list; lengths. -/
import Derived.Test.YtfimkjponcnlmaaClkZ
set_option linter.unusedSimpArgs false
set_option linter.unusedVariables false
namespace Go.Proofs.Ytfimkjponcnlmaa
open Go.RowKit

theorem rpl_length : ∀ (l : List Int) (c : Int × Int) (acc : List (Int × Int)), (rpl c acc l).1.length ≤ acc.length + l.length
  | [], c, acc => by simp [rpl]
  | x :: l, c, acc => by
    rw [rpl]
    split
    · have := rpl_length l (nextF c x).1 (acc ++ [((nextF c x).2.1, x)])
      simp at *
      omega
    · simp

theorem shF_length (wall : Int) : ∀ (l : List (Int × Int)) (fr : Int × Int) (out : List (Int × Int)), (shF wall fr out l).length ≤ out.length + l.length + 1
  | [], fr, out => by
    rw [shF]
    split
    · have := addF_length out (fr.1, 1099511627776); simp; omega
    · simp <;> omega
  | nx :: l, fr, out => by
    rw [shF]
    have := shF_length wall l nx (if mayB fr.2 nx.2 wall then addF out (fr.1, nx.1) else out)
    have h2 := addF_length out (fr.1, nx.1)
    split at this <;> simp at * <;> split <;> simp_all <;> omega
theorem shown_length (l : List (Int × Int)) (wall : Int) : (shown l wall).length ≤ l.length + 1 := by
  unfold shown
  split
  · have := shF_length wall l (0, 0) []; simpa using this
  · simp

theorem may_eq (a b wall : Int) : mayB a b wall = may2 a b wall := by
  unfold mayB may2
  by_cases h1 : a ≤ b <;> by_cases h2 : a ≤ wall <;> by_cases h3 : wall ≤ b <;> by_cases h4 : b < a <;> simp [h1, h2, h3, h4] <;> omega

/-- the periods gathered so far end at or before the time t, and the last one is valid -/
def Upto (out : List (Int × Int)) (t : Int) : Prop := ∀ q, out.getLast? = some q → 0 ≤ q.1 ∧ q.1 < q.2 ∧ q.2 ≤ t

theorem add_eq {out : List (Int × Int)} {p : Int × Int} (h : Upto out p.1) (h1 : p.1 < p.2) (h2 : p.2 ≤ 1099511627776) : addF out p = addR out p := by
  unfold addF addR
  cases hq : out.getLast? with
  | none => rfl
  | some q =>
    have h3 := h q hq
    simp only
    by_cases he : q.2 = p.1
    · have hv : pvB q = true ∧ pvB p = true := by simp [pvB]; omega
      have : pmerge q p = ((q.1, p.2), true) := by
        have ha : padB q p = true := by simp [padB, hv, he]
        simp [pmerge, ha]
        omega
      simp [this, he]
    · have ho : povB q p = false := by simp [povB]; omega
      have ha : padB q p = false := by simp [padB]; omega
      simp [pmerge, ho, ha, he]

theorem addR_upto {out : List (Int × Int)} {p : Int × Int} (h : Upto out p.1) (h0 : 0 ≤ p.1) (h1 : p.1 < p.2) : Upto (addR out p) p.2 := by
  intro q hq
  unfold addR at hq
  cases hl : out.getLast? with
  | none => rw [hl] at hq; simp at hq; subst hq; omega
  | some r =>
    have h3 := h r hl
    rw [hl] at hq
    simp only at hq
    split at hq <;> simp at hq <;> subst hq <;> simp <;> omega

theorem sh_eq (wall : Int) : ∀ (l : List (Int × Int)) (fr : Int × Int) (out : List (Int × Int)), chk fr.1 l = 0 → 0 ≤ fr.1 → fr.1 < 1099511627776 → Upto out fr.1 → shF wall fr out l = rsT wall out (fr :: l)
  | [], fr, out, _, h0, h1, hu => by
    rw [shF, rsT]
    split
    · exact add_eq (p := (fr.1, 1099511627776)) hu h1 (Int.le_refl _)
    · rfl
  | nx :: l, fr, out, hc, h0, h1, hu => by
    obtain ⟨t, x⟩ := nx
    rw [chk] at hc
    split at hc
    case isFalse => simp at hc
    case isTrue hi =>
      split at hc
      case isTrue => simp at hc
      case isFalse hlt =>
        split at hc
        case isFalse => simp at hc
        case isTrue he =>
          simp only [Bool.and_eq_true] at hi
          have hi2 := inst_le hi.2
          rw [shF, rsT, may_eq]
          have ha : addF out (fr.1, (t, x).1) = addR out (fr.1, (t, x).1) := add_eq hu (by simp; omega) (by simp; omega)
          rw [ha]
          refine sh_eq wall l (t, x) _ hc (by simp; omega) hi2.2 ?_
          split
          · exact addR_upto hu h0 (by simp; omega)
          · intro q hq; have := hu q hq; simp; omega

theorem shown_eq (l : List (Int × Int)) (wall : Int) : shown l wall = rshown l wall := by
  unfold shown rshown
  split
  · rename_i h
    exact sh_eq wall l (0, 0) [] h.1 (by simp) (by simp) (by intro q hq; simp at hq)
  · rfl

end Go.Proofs.Ytfimkjponcnlmaa
