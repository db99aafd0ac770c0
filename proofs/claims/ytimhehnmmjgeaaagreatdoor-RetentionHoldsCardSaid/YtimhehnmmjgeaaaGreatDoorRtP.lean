/- Plain laws of retention. -/
import Derived.Test.YtimhehnmmjgeaaaGreatDoorRgQ
set_option linter.unusedSimpArgs false
set_option linter.unusedVariables false
namespace Go.Proofs.YtimhehnmmjgeaaaGreatDoor

/-- the rectangle of the points from the horizon on -/
def hrR (h : Int) : Rct := ((0, 1099511627776), (max 0 h, 1099511627776))
/-- the program's rectangles of the points to be kept, the reference's -/
def keepF (h : Int) (l : List Rct) : List Rct := l ++ [hrR h]
def keptF (h : Int) (l : List Rct) : List Rct := l ++ (if h < 1099511627776 then [hrR h] else [])
def keepB (h : Int) (l : List Rct) (v t : Int) : Bool := decide (h ≤ t) || inR l v t

theorem inR_append (a b : List Rct) (v t : Int) : inR (a ++ b) v t = (inR a v t || inR b v t) := by simp [inR]
theorem inR_nil (v t : Int) : inR [] v t = false := rfl
theorem inR_hr (h v t : Int) : inR [hrR h] v t = (decide (0 ≤ v ∧ v < 1099511627776) && decide (0 ≤ t ∧ t < 1099511627776) && decide (h ≤ t)) := by
  rw [Bool.eq_iff_iff, inR_one, rvB_iff, pvB_iff, pvB_iff]
  simp only [hrR, Bool.and_eq_true, decide_eq_true_eq]
  omega
theorem kept_in (h : Int) (l : List Rct) (v t : Int) : inR (keptF h l) v t = inR (keepF h l) v t := by
  unfold keptF keepF
  rw [inR_append, inR_append]
  split
  · rfl
  · rename_i hh
    rw [inR_hr, inR_nil, Bool.or_false]
    rw [show (decide (0 ≤ v ∧ v < 1099511627776) && decide (0 ≤ t ∧ t < 1099511627776) && decide (h ≤ t)) = false from by
      rw [Bool.eq_false_iff]; intro hx; simp only [Bool.and_eq_true, decide_eq_true_eq] at hx; omega, Bool.or_false]
theorem kept_of (h : Int) (l : List Rct) (v t : Int) : inR (regF ofK (keptF h l) []) v t = inR (keepF h l) v t := by
  rw [inR_reg rfl, inR_nil, kept_in]; simp [ofK]
theorem keep_in {h : Int} {l : List Rct} {v t : Int} (hv : 0 ≤ v ∧ v < 1099511627776) (ht : 0 ≤ t ∧ t < 1099511627776) : inR (keepF h l) v t = keepB h l v t := by
  unfold keepF keepB
  rw [inR_append, inR_hr, decide_eq_true hv, decide_eq_true ht, Bool.true_and, Bool.true_and, Bool.or_comm]
theorem inR_pt {l : List Rct} {v t : Int} (h : inR l v t = true) : (0 ≤ v ∧ v < 1099511627776) ∧ (0 ≤ t ∧ t < 1099511627776) := by
  have := inR_rng h; omega

theorem retained_eq (h : Int) (l : List Rct) (a : List Rct) : regF interK a (regF ofK (keptF h l) []) = regF interK a (keepF h l) :=
  regF_eq rfl rfl fun v t => by rw [kept_of]
theorem lost_eq (h : Int) (l : List Rct) (a b : List Rct) (hab : ∀ v t, inR a v t = inR b v t) : regF subK a (regF ofK (keptF h l) []) = regF subK b (keepF h l) :=
  regF_eq rfl rfl fun v t => by rw [kept_of, hab]
theorem in_valid (l : List Rct) (v t : Int) : inR (l.filter rvB) v t = inR l v t := by
  rw [Bool.eq_iff_iff, inR_iff, inR_iff]
  constructor
  · rintro ⟨r, hr, h⟩; exact ⟨r, (List.mem_filter.1 hr).1, h⟩
  · rintro ⟨r, hr, h1, h⟩; exact ⟨r, List.mem_filter.2 ⟨hr, h1⟩, h1, h⟩
/-- a point of the retained part -/
theorem retained_in (h : Int) (l : List Rct) (r : Rct) (v t : Int) : inR (regF interK [r] (keepF h l)) v t = (inR [r] v t && keepB h l v t) := by
  rw [inR_reg rfl]
  unfold interK
  cases hin : inR [r] v t with
  | false => rfl
  | true =>
    obtain ⟨hv, ht⟩ := inR_pt hin
    rw [keep_in hv ht]
theorem inR_bad {r : Rct} (h : rvB r = false) (v t : Int) : inR [r] v t = false := by
  rw [Bool.eq_false_iff]; intro hh; rw [(inR_one.1 hh).1] at h; cases h
/-- what is complete loses nothing -/
theorem complete_in {h : Int} {l : List Rct} {r : Rct} (hc : regF subK [r] (keepF h l) = []) {v t : Int} (hin : inR [r] v t = true) : keepB h l v t = true := by
  have hh := inR_reg (k := subK) rfl [r] (keepF h l) v t
  rw [hc, inR_nil, hin] at hh
  obtain ⟨hv, ht⟩ := inR_pt hin
  rw [← keep_in hv ht]
  unfold subK at hh
  cases hk : inR (keepF h l) v t with
  | true => rfl
  | false => rw [hk] at hh; simp at hh
theorem keptF_length (h : Int) (l : List Rct) : (keptF h l).length ≤ l.length + 1 := by unfold keptF; split <;> simp
theorem keepF_length (h : Int) (l : List Rct) : (keepF h l).length = l.length + 1 := by simp [keepF]
theorem kept_len {h : Int} {l : List Rct} (hl : l.length ≤ 12) : (regF ofK (keptF h l) []).length ≤ 675 :=
  Nat.le_trans (regF_le (n := 13) (by have := keptF_length h l; simp; omega)) (by decide)
theorem small_len {k : Bool → Bool → Bool} {a b : List Rct} (ha : a.length ≤ 2500) (hb : b.length ≤ 2500) : (regF k a b).length ≤ 9223372036854775807 := regF_big ha hb

/-- horizons -/
def horF (now keep last : Int) : Int := if now < 0 ∨ keep < 0 then max 0 last else max (max 0 last) (now - keep)
end Go.Proofs.YtimhehnmmjgeaaaGreatDoor
