/- The contracts of Covers, Length, Next and Valid. -/
import Derived.Test.YtimhehnmmjgeaaaGreatDoorSpC
set_option linter.unusedSimpArgs false
set_option linter.unusedVariables false
namespace Go.Proofs.YtimhehnmmjgeaaaGreatDoor
open Go.RowKit


def coversF (a b : List (Int × Int)) : Bool := decide ((combF subK b a).length = 0)
theorem nextF_yes {t : Int} {p : Int × Int} {l : List (Int × Int)} (h : t < p.2) : nextF t (p :: l) = (if t < p.1 then p.1 else t, true) := by simp [nextF, h]
theorem nextF_no {t : Int} {p : Int × Int} {l : List (Int × Int)} (h : p.2 ≤ t) : nextF t (p :: l) = nextF t l := by
  have : ¬ t < p.2 := by omega
  simp [nextF, this]
/-- is a list a span, as both texts ask it -/
def canF : Option Int → List (Int × Int) → Bool
  | _, [] => true
  | q, p :: l => pvB p && (match q with | none => true | some e => decide (e < p.1)) && canF (some p.2) l
def prevF (l : List (Int × Int)) (k : Nat) : Option Int := if k = 0 then none else l[k - 1]?.map (·.2)
theorem prevF_succ {l : List (Int × Int)} {k : Nat} (h : k < l.length) : prevF l (k + 1) = some l[k].2 := by
  unfold prevF; rw [if_neg (by omega), Nat.add_sub_cancel, List.getElem?_eq_getElem h]; rfl
theorem canF_bad {q : Option Int} {p : Int × Int} {l : List (Int × Int)} (h : pvB p = false) : canF q (p :: l) = false := by simp [canF, h]
theorem canF_near {e : Int} {p : Int × Int} {l : List (Int × Int)} (h : p.1 ≤ e) : canF (some e) (p :: l) = false := by
  have : ¬ e < p.1 := by omega
  simp [canF, this]
theorem canF_next {e : Int} {p : Int × Int} {l : List (Int × Int)} (hv : pvB p = true) (h : e < p.1) : canF (some e) (p :: l) = canF (some p.2) l := by simp [canF, hv, h]
theorem canF_first {p : Int × Int} {l : List (Int × Int)} (hv : pvB p = true) : canF none (p :: l) = canF (some p.2) l := by simp [canF, hv]
theorem canF_some : ∀ (l : List (Int × Int)) (e : Int), canF (some e) l = true ↔ Can l ∧ ∀ p ∈ l, e < p.1
  | [], e => by simp [canF, can_nil]
  | p :: l, e => by
    rw [canF, can_cons]
    simp only [Bool.and_eq_true, decide_eq_true_eq, canF_some l, List.mem_cons, forall_eq_or_imp]
    constructor
    · rintro ⟨⟨a, b⟩, c, d⟩
      have := pvB_iff.1 a
      exact ⟨⟨a, d, c⟩, b, fun q hq => by have := d q hq; omega⟩
    · rintro ⟨⟨a, d, c⟩, b, _⟩; exact ⟨⟨a, b⟩, c, d⟩
theorem canF_can (l : List (Int × Int)) : canF none l = true ↔ Can l := by
  cases l with
  | nil => simp [canF, can_nil]
  | cons p l => rw [can_cons]; simp only [canF, Bool.and_true, Bool.and_eq_true, canF_some]
                constructor
                · rintro ⟨a, b, c⟩; exact ⟨a, c, b⟩
                · rintro ⟨a, c, b⟩; exact ⟨a, b, c⟩


end Go.Proofs.YtimhehnmmjgeaaaGreatDoor
