/- Comparisons that are zero: equal values, equal rows. -/
import Derived.Test.YtflhikpihbenaaaGreatVrw
import Derived.Sort.Walk0
set_option linter.unusedSimpArgs false
set_option linter.unusedVariables false
namespace Go.Proofs.YtflhikpihbenaaaGreat
open Go.RowKit

theorem bool_eq {a b : Bool} (h : a = true ↔ b = true) : a = b := by cases a <;> cases b <;> simp_all
theorem lt_irr (t : List UInt8) : ¬ t < t := List.lt_irrefl t
theorem tri (s t : List UInt8) : s < t ∨ s = t ∨ t < s := by
  rcases Classical.em (s < t) with h | h
  · exact .inl h
  · rcases Classical.em (t < s) with h2 | h2
    · exact .inr (.inr h2)
    · exact .inr (.inl (List.le_antisymm (List.not_lt.1 h2) (List.not_lt.1 h)))
theorem bl_lt (a b : ByteArray) : Op.bytesLess a.toList b.toList = decide (a.data.toList < b.data.toList) := by
  rw [ByteArray.toList_eq, ByteArray.toList_eq, bytesLess_eq]
theorem cmpI_zero {a b : Int} : cmpI a b = 0 ↔ a = b := ⟨fun h => by rcases Classical.em (a = b) with e | e; exact e; exact absurd h (cmpI_ne e), cmpI_eq⟩
theorem cb_zero {x y : List UInt8} : Lib.compareBytes x y = 0 ↔ x = y := by
  rw [cb_spec, bytesLess_eq]
  constructor
  · intro h
    split at h
    · cases h
    · split at h
      · assumption
      · cases h
  · rintro rfl; rw [if_neg (by simp [lt_irr]), if_pos rfl]
theorem cmpV_zero {a b : Va} : cmpV a b = 0 ↔ a = b := by
  unfold cmpV
  simp only [orF]
  constructor
  · intro h
    split at h
    · rename_i h1
      split at h
      · rename_i h2
        split at h
        · rename_i h3
          obtain ⟨ak, ai, at'⟩ := a; obtain ⟨bk, bi, bt⟩ := b
          rw [cmpI_zero] at h1 h2
          rw [cb_zero] at h3
          simp only at h1 h2 h3
          have : at' = bt := ByteArray.ext (Array.toList_inj.1 h3)
          rw [h1, h2, this]
        · rename_i h3; exact absurd h h3
      · rename_i h2; exact absurd h h2
    · rename_i h1; exact absurd h h1
  · rintro rfl
    rw [if_pos (cmpI_zero.2 rfl), if_pos (cmpI_zero.2 rfl), if_pos (cb_zero.2 rfl)]
theorem cmpR_zero : ∀ {a b : List Va}, cmpR a b = 0 ↔ a = b
  | [], [] => by simp [cmpR]
  | [], _ :: _ => by simp [cmpR]
  | _ :: _, [] => by simp [cmpR]
  | x :: a, y :: b => by
    by_cases h : cmpV x y = 0
    · rw [cmpR_eq h, cmpR_zero, cmpV_zero.1 h]; simp
    · rw [cmpR_ne h]
      constructor
      · intro h2; exact absurd h2 h
      · intro h2; cases h2; exact absurd (cmpV_zero.2 rfl) h
end Go.Proofs.YtflhikpihbenaaaGreat
