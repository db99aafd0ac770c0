/- A balanced tree of periods, in plain words. -/
import Derived.Test.YtahmkinppighkaaOwn
import Derived.Test.YtahmkinppighkaaCmp
set_option linter.unusedSimpArgs false
set_option linter.unusedVariables false
namespace Go.Proofs.Ytahmkinppighkaa
open Go.RowKit

/-- a period with an identity -/
abbrev It := (Int × Int) × Int
/-- a tree as it lies in memory: block, item, subtrees, height, greatest end -/
inductive AT where
  | nil
  | node (b : Nat) (x : It) (l r : AT) (h e : Int)
def AT.p : AT → Value
  | .nil => .pointer none
  | .node b _ _ _ _ _ => .pointer (some ⟨b, 0, none⟩)
def AT.ht : AT → Int
  | .nil => 0
  | .node _ _ _ _ h _ => h
def AT.en : AT → Int
  | .nil => 0
  | .node _ _ _ _ _ e => e
def AT.foot : AT → List Nat
  | .nil => []
  | .node b _ l r _ _ => b :: (l.foot ++ r.foot)
def AT.flat : AT → List It
  | .nil => []
  | .node _ x l r _ _ => l.flat ++ x :: r.flat
def AT.Ok : AT → Prop
  | .nil => True
  | .node _ x l r h e => l.Ok ∧ r.Ok ∧ h = 1 + max l.ht r.ht ∧ e = max x.1.2 (max l.en r.en)
theorem AT.Ok.ht0 : ∀ {t : AT}, t.Ok → 0 ≤ t.ht ∧ t.ht ≤ t.flat.length
  | .nil, _ => by simp [AT.ht, AT.flat]
  | .node b x l r h e, k => by
    have h1 := AT.Ok.ht0 k.1
    have h2 := AT.Ok.ht0 k.2.1
    have h3 := k.2.2.1
    simp only [AT.ht, AT.flat, List.length_append, List.length_cons] at *
    omega
/-- the order of items -/
def itC (x y : It) : Int := if x.1.1 ≠ y.1.1 then cmpI x.1.1 y.1.1 else if x.1.2 ≠ y.1.2 then cmpI x.1.2 y.1.2 else cmpI x.2 y.2
def itL (x y : It) : Prop := x.1.1 < y.1.1 ∨ (x.1.1 = y.1.1 ∧ (x.1.2 < y.1.2 ∨ (x.1.2 = y.1.2 ∧ x.2 < y.2)))
theorem itC_lt {x y : It} : itC x y < 0 ↔ itL x y := by
  unfold itC itL cmpI
  repeat' split
  all_goals omega
theorem itC_gt {x y : It} : 0 < itC x y ↔ itL y x := by
  unfold itC itL cmpI
  repeat' split
  all_goals omega
theorem itC_eq {x y : It} : itC x y = 0 ↔ x = y := by
  obtain ⟨⟨a, b⟩, c⟩ := x
  obtain ⟨⟨a', b'⟩, c'⟩ := y
  unfold itC cmpI
  simp only [Prod.mk.injEq]
  repeat' split
  all_goals omega
theorem itL_trans {x y z : It} (h : itL x y) (k : itL y z) : itL x z := by unfold itL at *; omega
theorem itL_irr {x : It} : ¬ itL x x := by unfold itL; omega
theorem itL_tri (x y : It) : itL x y ∨ x = y ∨ itL y x := by
  rcases Int.lt_trichotomy (itC x y) 0 with h | h | h
  · exact .inl (itC_lt.1 h)
  · exact .inr (.inl (itC_eq.1 h))
  · exact .inr (.inr (itC_gt.1 h))
/-- sorted -/
def SrI (l : List It) : Prop := l.Pairwise itL
theorem SrI.mid {a b : List It} {x : It} (h : SrI (a ++ x :: b)) : SrI a ∧ SrI b ∧ (∀ y ∈ a, itL y x) ∧ ∀ y ∈ b, itL x y := by
  unfold SrI at *
  rw [List.pairwise_append, List.pairwise_cons] at h
  exact ⟨h.1, h.2.1.2, fun y hy => h.2.2 y hy x (by simp), h.2.1.1⟩
theorem SrI.mk {a b : List It} {x : It} (ha : SrI a) (hb : SrI b) (h1 : ∀ y ∈ a, itL y x) (h2 : ∀ y ∈ b, itL x y) : SrI (a ++ x :: b) := by
  unfold SrI at *
  rw [List.pairwise_append, List.pairwise_cons]
  refine ⟨ha, ⟨h2, hb⟩, fun y hy z hz => ?_⟩
  rcases List.mem_cons.1 hz with rfl | hz
  · exact h1 y hy
  · exact itL_trans (h1 y hy) (h2 z hz)
/-- what a search finds, as it goes -/
def AT.ov (p : Int × Int) : AT → List Int
  | .nil => []
  | .node _ x l r _ e => if e ≤ p.1 then [] else l.ov p ++ (if p.2 ≤ x.1.1 then [] else (if p.1 < x.1.2 then [x.2] else []) ++ r.ov p)
def ovP (p : Int × Int) (x : It) : Bool := decide (x.1.1 < p.2) && decide (p.1 < x.1.2)
theorem AT.Ok.en_le : ∀ {t : AT}, t.Ok → ∀ x ∈ t.flat, x.1.2 ≤ t.en
  | .nil, _, x, h => by simp [AT.flat] at h
  | .node b y l r h e, k, x, hx => by
    have h3 := k.2.2.2
    simp only [AT.flat, List.mem_append, List.mem_cons] at hx
    simp only [AT.en]
    rcases hx with hx | rfl | hx
    · have := AT.Ok.en_le k.1 x hx; omega
    · omega
    · have := AT.Ok.en_le k.2.1 x hx; omega
theorem filter_none {l : List It} {f : It → Bool} (h : ∀ x ∈ l, f x = false) : l.filter f = [] := by
  rw [List.filter_eq_nil_iff]
  intro x hx
  rw [h x hx]
  decide
theorem AT.ov_flat (p : Int × Int) : ∀ {t : AT}, t.Ok → SrI t.flat → t.ov p = (t.flat.filter (ovP p)).map (·.2)
  | .nil, _, _ => by simp [AT.ov, AT.flat]
  | .node b x l r h e, k, hs => by
    have k' := k
    obtain ⟨s1, s2, s3, s4⟩ := SrI.mid (show SrI (l.flat ++ x :: r.flat) from hs)
    rw [AT.ov]
    split
    · rename_i he
      rw [filter_none]
      · rfl
      · intro y hy
        have := AT.Ok.en_le k y hy
        simp only [AT.en] at this
        have : ¬ p.1 < y.1.2 := by omega
        simp [ovP, this]
    · rw [AT.ov_flat p k.1 s1, AT.flat, List.filter_append, List.map_append]
      congr 1
      split
      · rename_i hf
        rw [filter_none]
        · rfl
        · intro y hy
          have h1 : x.1.1 ≤ y.1.1 := by
            rcases List.mem_cons.1 hy with rfl | hy
            · omega
            · have := s4 y hy; unfold itL at this; omega
          have : ¬ y.1.1 < p.2 := by omega
          simp [ovP, this]
      · rename_i hf
        rw [AT.ov_flat p k.2.1 s2, List.filter_cons]
        split
        · rename_i h1
          rw [if_pos (by simp [ovP]; omega)]
          rfl
        · rename_i h1
          rw [if_neg (by simp [ovP]; omega)]
          rfl
/-- x is in a sorted tree: where it is -/
theorem SrI.mem_mid {a b : List It} {x y : It} (h : SrI (a ++ x :: b)) : (itL y x → (y ∈ a ++ x :: b ↔ y ∈ a)) ∧ (itL x y → (y ∈ a ++ x :: b ↔ y ∈ b)) := by
  obtain ⟨s1, s2, s3, s4⟩ := h.mid
  constructor
  · intro hl
    simp only [List.mem_append, List.mem_cons]
    constructor
    · rintro (h | rfl | h)
      · exact h
      · exact absurd hl itL_irr
      · exact absurd (itL_trans hl (s4 y h)) itL_irr
    · exact .inl
  · intro hl
    simp only [List.mem_append, List.mem_cons]
    constructor
    · rintro (h | rfl | h)
      · exact absurd (itL_trans hl (s3 y h)) itL_irr
      · exact absurd hl itL_irr
      · exact h
    · exact fun h => .inr (.inr h)
end Go.Proofs.Ytahmkinppighkaa
