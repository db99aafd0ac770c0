/- Lemmas for the rows: Pvd SpP. -/
import Derived.Test.YtdiaecgpjgdkdaaGreatThS03
set_option linter.unusedSimpArgs false
set_option linter.unusedVariables false
namespace Go.Proofs.YtdiaecgpjgdkdaaGreat

def pvB (p : Int × Int) : Bool := decide (0 ≤ p.1) && decide (p.1 < p.2) && decide (p.2 ≤ 1099511627776)
theorem pvB_iff {p : Int × Int} : pvB p = true ↔ 0 ≤ p.1 ∧ p.1 < p.2 ∧ p.2 ≤ 1099511627776 := by
 unfold pvB; simp only [Bool.and_eq_true, decide_eq_true_eq, and_assoc]

theorem bool_eq {a b : Bool} (h : a = true ↔ b = true) : a = b := by
 cases a <;> cases b <;> simp_all
end Go.Proofs.YtdiaecgpjgdkdaaGreat

namespace Go.Proofs.YtdiaecgpjgdkdaaGreat

theorem asc_unique : ∀ {l l' : List Int}, l.Pairwise (· < ·) → l'.Pairwise (· < ·) → (∀ z, z ∈ l ↔ z ∈ l') → l = l'
 | [], [], _, _, _ => rfl
 | [], q :: l', _, _, he => by have := (he q).2 (by simp); simp at this
 | p :: l, [], _, _, he => by have := (he p).1 (by simp); simp at this
 | p :: l, q :: l', h, h', he => by
  obtain ⟨a, b⟩ := List.pairwise_cons.1 h
  obtain ⟨a', b'⟩ := List.pairwise_cons.1 h'
  have hpq : p = q := by
   have h1 := (he p).1 (by simp)
   have h2 := (he q).2 (by simp)
   rcases List.mem_cons.1 h1 with h1 | h1
   ·
    exact h1
   ·
    rcases List.mem_cons.1 h2 with h2 | h2
    ·
     exact h2.symm
    ·
     have := a q h2; have := a' p h1; omega
  subst hpq
  rw [asc_unique b b' fun z => ?_]
  constructor
  ·
   intro hz
   rcases List.mem_cons.1 ((he z).1 (by simp [hz])) with rfl | h
   ·
    have := a z hz; omega
   ·
    exact h
  ·
   intro hz
   rcases List.mem_cons.1 ((he z).2 (by simp [hz])) with rfl | h
   ·
    have := a' z hz; omega
   ·
    exact h

end Go.Proofs.YtdiaecgpjgdkdaaGreat
