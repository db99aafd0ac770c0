/- Plain laws of chapter 6: replayed stamps are valid, and Shown covers the time of each stamp for its reading. -/
import Derived.Test.YtfimkjponcnlmaaLawC
set_option linter.unusedSimpArgs false
set_option linter.unusedVariables false
namespace Go.Proofs.Ytfimkjponcnlmaa
open Go.RowKit

/-- does a period contain the time -/
def anyc (out : List (Int × Int)) (t : Int) : Bool := out.any fun p => decide (p.1 ≤ t) && decide (t < p.2)

theorem anyc_iff {out : List (Int × Int)} {t : Int} : anyc out t = true ↔ ∃ p ∈ out, p.1 ≤ t ∧ t < p.2 := by
  simp [anyc]

theorem addR_form (out : List (Int × Int)) (p : Int × Int) : addR out p = [p] ∧ out = [] ∨ ∃ d q, out = d ++ [q] ∧ addR out p = (if q.2 = p.1 then d ++ [(q.1, p.2)] else out ++ [p]) := by
  rcases List.eq_nil_or_concat out with rfl | ⟨d, q, rfl⟩
  · left; simp [addR]
  · right; exact ⟨d, q, by simp, by simp [addR]⟩

theorem addR_cov1 {out : List (Int × Int)} {p : Int × Int} {t : Int} (hu : Upto out p.1) (hp : p.1 < p.2) (h : anyc out t = true) : anyc (addR out p) t = true := by
  rw [anyc_iff] at *
  rcases addR_form out p with ⟨_, rfl⟩ | ⟨d, q, rfl, he⟩
  · simp at h
  · have hq := hu q (by simp)
    obtain ⟨r, hr, h1, h2⟩ := h
    rw [he]
    split
    · simp at hr
      rcases hr with hr | rfl
      · exact ⟨r, by simp [hr], h1, h2⟩
      · exact ⟨(r.1, p.2), by simp, by simpa using h1, by simp; omega⟩
    · exact ⟨r, by simp at hr ⊢; rcases hr with h | h <;> simp [h], h1, h2⟩

theorem addR_cov2 {out : List (Int × Int)} {p : Int × Int} {t : Int} (hu : Upto out p.1) (h1 : p.1 ≤ t) (h2 : t < p.2) : anyc (addR out p) t = true := by
  rw [anyc_iff]
  rcases addR_form out p with ⟨he, rfl⟩ | ⟨d, q, rfl, he⟩
  · rw [he]; exact ⟨p, by simp, h1, h2⟩
  · have hq := hu q (by simp)
    rw [he]
    split
    · exact ⟨(q.1, p.2), by simp, by simp; omega, by simpa using h2⟩
    · exact ⟨p, by simp, h1, h2⟩

theorem chk_cons {fr t x : Int} {l : List (Int × Int)} (h : chk fr ((t, x) :: l) = 0) : fr < t ∧ t < 1099511627776 ∧ 0 ≤ t ∧ chk t l = 0 := by
  rw [chk] at h
  split at h
  case isFalse => simp at h
  case isTrue hi =>
    split at h
    case isTrue => simp at h
    case isFalse hlt =>
      split at h
      case isFalse => simp at h
      case isTrue he =>
        simp only [Bool.and_eq_true] at hi
        have := inst_le hi.2
        exact ⟨by omega, this.2, this.1, h⟩

theorem upto_le {out : List (Int × Int)} {a b : Int} (h : Upto out a) (hab : a ≤ b) : Upto out b := fun q hq => by have := h q hq; omega

theorem rsT_cov (wall t : Int) : ∀ (l : List (Int × Int)) (fr : Int × Int) (out : List (Int × Int)), chk fr.1 l = 0 → 0 ≤ fr.1 → fr.1 < 1099511627776 → Upto out fr.1 → anyc out t = true → anyc (rsT wall out (fr :: l)) t = true
  | [], fr, out, _, h0, h1, hu, hc => by
    rw [rsT]
    split
    · exact addR_cov1 (p := (fr.1, 1099511627776)) hu h1 hc
    · exact hc
  | (s, x) :: l, fr, out, hk, h0, h1, hu, hc => by
    obtain ⟨a1, a2, a3, a4⟩ := chk_cons hk
    rw [rsT]
    split
    · exact rsT_cov wall t l (s, x) _ a4 a3 a2 (addR_upto (p := (fr.1, s)) hu h0 a1) (addR_cov1 (p := (fr.1, s)) hu a1 hc)
    · exact rsT_cov wall t l (s, x) _ a4 a3 a2 (upto_le hu (by simp; omega)) hc

theorem may2_self (a b : Int) : may2 a b a = true := by
  unfold may2; split <;> simp; assumption

theorem rsT_hit (wall : Int) : ∀ (l : List (Int × Int)) (fr : Int × Int) (out : List (Int × Int)), chk fr.1 l = 0 → 0 ≤ fr.1 → fr.1 < 1099511627776 → Upto out fr.1 → ∀ p ∈ fr :: l, p.2 = wall → anyc (rsT wall out (fr :: l)) p.1 = true
  | [], fr, out, _, h0, h1, hu, p, hp, hw => by
    simp at hp
    subst hp
    rw [rsT, if_pos (by omega)]
    exact addR_cov2 (p := (p.1, 1099511627776)) hu (Int.le_refl _) h1
  | (s, x) :: l, fr, out, hk, h0, h1, hu, p, hp, hw => by
    obtain ⟨a1, a2, a3, a4⟩ := chk_cons hk
    rw [rsT]
    rw [List.mem_cons] at hp
    rcases hp with rfl | hp
    · rw [← hw, if_pos (may2_self _ _)]
      exact rsT_cov _ _ l (s, x) _ a4 a3 a2 (addR_upto (p := (p.1, s)) hu h0 a1) (addR_cov2 (p := (p.1, s)) hu (Int.le_refl _) a1)
    · split
      · exact rsT_hit wall l (s, x) _ a4 a3 a2 (addR_upto (p := (fr.1, s)) hu h0 a1) p hp hw
      · exact rsT_hit wall l (s, x) _ a4 a3 a2 (upto_le hu (by simp; omega)) p hp hw

theorem shown_hit {l : List (Int × Int)} (hk : chk 0 l = 0) {p : Int × Int} (hp : p ∈ l) (hi : instB p.2 = true) : anyc (shown l p.2) p.1 = true := by
  rw [shown_eq, rshown, if_pos ⟨hk, hi⟩]
  exact rsT_hit p.2 l (0, 0) [] hk (Int.le_refl _) (by decide) (fun q hq => by simp at hq) p (by simp [hp]) rfl

theorem chk_rl : ∀ (l : List Int) (c : Int × Int), okl c l → chk c.1 (rl c l) = 0
  | [], c, _ => rfl
  | x :: l, c, h => by
    rw [okl] at h
    obtain ⟨hv, hc, hi⟩ := next_val h.1
    have hn := next_ok h.1
    have hcl := cv_le hc
    rw [rl]
    rw [hv] at h hn ⊢
    simp only at h hn ⊢
    have hge := mx_ge (c.1 + 1) x
    have hm : instB (mx (c.1 + 1) x) = true := by simp [instB]; omega
    rw [chk, if_pos (by simp [hi, hm]), if_neg (by omega), if_pos rfl]
    exact chk_rl l (mx (c.1 + 1) x, x) h.2

theorem rl_inst : ∀ (l : List Int) (c : Int × Int), okl c l → ∀ p ∈ rl c l, instB p.2 = true
  | [], c, _, p, hp => by simp [rl] at hp
  | x :: l, c, h, p, hp => by
    rw [okl] at h
    rw [rl, List.mem_cons] at hp
    rcases hp with rfl | hp
    · exact (next_val h.1).2.2
    · exact rl_inst l _ h.2 p hp

end Go.Proofs.Ytfimkjponcnlmaa
