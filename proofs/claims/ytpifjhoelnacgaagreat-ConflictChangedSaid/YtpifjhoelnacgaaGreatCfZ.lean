/- Versions ordered by schema and row: plain laws of the reference's sorting (merge sort). -/
import Derived.Test.YtpifjhoelnacgaaGreatCfE
import Derived.Test.YtpifjhoelnacgaaGreatCfQ
import Derived.Test.YtpifjhoelnacgaaGreatVr9
set_option linter.unusedSimpArgs false
set_option linter.unusedVariables false
namespace Go.Proofs.YtpifjhoelnacgaaGreat

/-- one value ahead of another -/
def ltV (a b : Va) : Prop := a.k < b.k ∨ a.k = b.k ∧ (a.i < b.i ∨ a.i = b.i ∧ a.t.data.toList < b.t.data.toList)
theorem ltV_trans {a b c : Va} (h : ltV a b) (k : ltV b c) : ltV a c := by
  unfold ltV at *
  rcases h with h | ⟨h1, h | ⟨h2, h⟩⟩ <;> rcases k with k | ⟨k1, k | ⟨k2, k⟩⟩
  · left; omega
  · left; omega
  · left; omega
  · left; omega
  · right; exact ⟨by omega, .inl (by omega)⟩
  · right; exact ⟨by omega, .inl (by omega)⟩
  · left; omega
  · right; exact ⟨by omega, .inl (by omega)⟩
  · right; exact ⟨by omega, .inr ⟨by omega, List.lt_trans h k⟩⟩
theorem ltV_irr (a : Va) : ¬ ltV a a := by
  rintro (h | ⟨_, h | ⟨_, h⟩⟩)
  · omega
  · omega
  · exact lt_irr _ h
theorem ltV_tri (a b : Va) : ltV a b ∨ a = b ∨ ltV b a := by
  unfold ltV
  rcases Int.lt_trichotomy a.k b.k with h | h | h
  · exact .inl (.inl h)
  · rcases Int.lt_trichotomy a.i b.i with h2 | h2 | h2
    · exact .inl (.inr ⟨h, .inl h2⟩)
    · rcases tri a.t.data.toList b.t.data.toList with h3 | h3 | h3
      · exact .inl (.inr ⟨h, .inr ⟨h2, h3⟩⟩)
      · refine .inr (.inl ?_)
        have h4 : a.t = b.t := ByteArray.ext (Array.toList_inj.1 h3)
        cases a; cases b; simp_all
      · exact .inr (.inr (.inr ⟨h.symm, .inr ⟨h2.symm, h3⟩⟩))
    · exact .inr (.inr (.inr ⟨h.symm, .inl h2⟩))
  · exact .inr (.inr (.inl h))
theorem cmpV_lt {a b : Va} : cmpV a b < 0 ↔ ltV a b := by
  have hb : Op.bytesLess a.t.toList b.t.toList = decide (a.t.data.toList < b.t.data.toList) := bl_lt _ _
  unfold ltV
  rcases cmpV_ways a b with ⟨h1, h0⟩ | ⟨h1, h0, hd⟩ | ⟨h1, h2, h0⟩ | ⟨h1, h2, h0, hd⟩ | ⟨h1, h2, h3, h0⟩ | ⟨h1, h2, h3, h0, hd⟩ | ⟨h1, h2, h3, h0, hd⟩
  · simp [h0, h1]
  · simp only [h0]
    constructor
    · intro h; omega
    · rintro (h | ⟨h, _⟩) <;> omega
  · simp [h0, h1, h2]
  · simp only [h0]
    constructor
    · intro h; omega
    · rintro (h | ⟨h, h | ⟨h', _⟩⟩) <;> omega
  · rw [hb] at h3
    simp only [h0]
    exact ⟨fun _ => .inr ⟨h1, .inr ⟨h2, of_decide_eq_true h3⟩⟩, fun _ => by decide⟩
  · rw [hb] at h3
    have h4 := of_decide_eq_false h3
    simp only [h0]
    constructor
    · intro h; omega
    · rintro (h | ⟨h, h | ⟨h', h⟩⟩)
      · omega
      · omega
      · exact absurd h h4
  · subst hd
    rw [h0]
    exact ⟨fun h => absurd h (by decide), fun h => absurd h (ltV_irr a)⟩
def ltR : List Va → List Va → Prop
  | [], [] => False
  | [], _ :: _ => True
  | _ :: _, [] => False
  | x :: a, y :: b => ltV x y ∨ x = y ∧ ltR a b
theorem ltR_trans : ∀ {a b c : List Va}, ltR a b → ltR b c → ltR a c
  | _, [], [], _, k => by cases k
  | [], [], _ :: _, h, _ => by cases h
  | _ :: _, [], _ :: _, h, _ => by cases h
  | [], _ :: _, [], _, k => by cases k
  | _ :: _, _ :: _, [], _, k => by cases k
  | [], _ :: _, _ :: _, _, _ => trivial
  | x :: a, y :: b, z :: c, h, k => by
    unfold ltR at *
    rcases h with h | ⟨rfl, h⟩ <;> rcases k with k | ⟨rfl, k⟩
    · exact .inl (ltV_trans h k)
    · exact .inl h
    · exact .inl k
    · exact .inr ⟨rfl, ltR_trans h k⟩
theorem ltR_irr : ∀ (a : List Va), ¬ ltR a a
  | [], h => h
  | x :: a, h => by
    unfold ltR at h
    rcases h with h | ⟨_, h⟩
    · exact ltV_irr x h
    · exact ltR_irr a h
theorem ltR_tri : ∀ (a b : List Va), ltR a b ∨ a = b ∨ ltR b a
  | [], [] => .inr (.inl rfl)
  | [], _ :: _ => .inl trivial
  | _ :: _, [] => .inr (.inr trivial)
  | x :: a, y :: b => by
    rcases ltV_tri x y with h | rfl | h
    · exact .inl (.inl h)
    · rcases ltR_tri a b with h | rfl | h
      · exact .inl (.inr ⟨rfl, h⟩)
      · exact .inr (.inl rfl)
      · exact .inr (.inr (.inr ⟨rfl, h⟩))
    · exact .inr (.inr (.inl h))
theorem cmpR_lt : ∀ {a b : List Va}, cmpR a b < 0 ↔ ltR a b
  | [], [] => by rw [cmpR_nil_nil]; simp [ltR]
  | [], y :: b => by rw [cmpR_nil]; simp [ltR]
  | x :: a, [] => by rw [cmpR_lo]; simp [ltR]
  | x :: a, y :: b => by
    unfold ltR
    by_cases h : cmpV x y = 0
    · rw [cmpR_eq h, cmpR_lt]
      have := cmpV_zero.1 h
      subst this
      exact ⟨fun h => .inr ⟨rfl, h⟩, fun h => h.elim (fun h => absurd h (ltV_irr x)) (·.2)⟩
    · rw [cmpR_ne h, cmpV_lt]
      exact ⟨.inl, fun k => k.elim id fun e => absurd (cmpV_zero.2 e.1) h⟩
abbrev Ky := Int × List Va
def ltK (a b : Ky) : Prop := a.1 < b.1 ∨ a.1 = b.1 ∧ ltR a.2 b.2
def ordK (a b : Ky) : Int := if a.1 < b.1 then -1 else if b.1 < a.1 then 1 else cmpR a.2 b.2
theorem ltK_trans {a b c : Ky} (h : ltK a b) (k : ltK b c) : ltK a c := by
  unfold ltK at *
  rcases h with h | ⟨h1, h⟩ <;> rcases k with k | ⟨k1, k⟩
  · left; omega
  · left; omega
  · left; omega
  · exact .inr ⟨by omega, ltR_trans h k⟩
theorem ltK_irr (a : Ky) : ¬ ltK a a := by
  rintro (h | ⟨_, h⟩)
  · omega
  · exact ltR_irr _ h
theorem ltK_tri (a b : Ky) : ltK a b ∨ a = b ∨ ltK b a := by
  unfold ltK
  rcases Int.lt_trichotomy a.1 b.1 with h | h | h
  · exact .inl (.inl h)
  · rcases ltR_tri a.2 b.2 with h2 | h2 | h2
    · exact .inl (.inr ⟨h, h2⟩)
    · exact .inr (.inl (Prod.ext h h2))
    · exact .inr (.inr (.inr ⟨h.symm, h2⟩))
  · exact .inr (.inr (.inl h))
theorem ordK_lt {a b : Ky} : ordK a b < 0 ↔ ltK a b := by
  unfold ordK ltK
  rcases Int.lt_trichotomy a.1 b.1 with h | h | h
  · simp [h]
  · have h1 : ¬ a.1 < b.1 := by omega
    have h2 : ¬ b.1 < a.1 := by omega
    rw [if_neg h1, if_neg h2, cmpR_lt]
    exact ⟨fun k => .inr ⟨h, k⟩, fun k => k.elim (fun e => absurd e h1) (·.2)⟩
  · have h1 : ¬ a.1 < b.1 := by omega
    have h2 : ¬ a.1 = b.1 := by omega
    rw [if_neg h1, if_pos h]
    simp [h1, h2]
theorem ordK_zero {a b : Ky} : ordK a b = 0 ↔ a = b := by
  unfold ordK
  constructor
  · intro h
    split at h
    · omega
    · split at h
      · omega
      · exact Prod.ext (by omega) (cmpR_zero.1 h)
  · rintro rfl
    simp [cmpR_zero]
def leK (a b : Ky) : Prop := ¬ ltK b a
theorem leK_trans {a b c : Ky} (h : leK a b) (k : leK b c) : leK a c := by
  intro e
  rcases ltK_tri a b with h1 | rfl | h1
  · exact k (ltK_trans e h1)
  · exact k e
  · exact h h1
theorem leK_anti {a b : Ky} (h : leK a b) (k : leK b a) : a = b := by
  rcases ltK_tri a b with h1 | h1 | h1
  · exact absurd h1 k
  · exact h1
  · exact absurd h1 h
/-- sorted, and of the same members: the same list -/
theorem sortedK_eq : ∀ {l m : List Ky}, l.Pairwise leK → m.Pairwise leK → l.Perm m → l = m
  | [], m, _, _, h => (List.nil_perm.1 h).symm
  | a :: l, [], _, _, h => absurd h.symm (by intro e; have := List.nil_perm.1 e; cases this)
  | a :: l, b :: m, hl, hm, h => by
    have hab : a = b := by
      have h1 : leK b a := by
        rcases List.mem_cons.1 (h.mem_iff.1 (List.mem_cons_self ..)) with e | e
        · rw [e]; exact ltK_irr _
        · exact (List.pairwise_cons.1 hm).1 a e
      have h2 : leK a b := by
        rcases List.mem_cons.1 (h.mem_iff.2 (List.mem_cons_self ..)) with e | e
        · rw [e]; exact ltK_irr _
        · exact (List.pairwise_cons.1 hl).1 b e
      exact leK_anti h2 h1
    subst hab
    rw [sortedK_eq (List.pairwise_cons.1 hl).2 (List.pairwise_cons.1 hm).2 ((List.perm_cons a).1 h)]
section
open Classical
/-- two sorted lists put together -/
noncomputable def mrgV : List VR → List VR → List VR
  | [], b => b
  | a, [] => a
  | x :: a, y :: b => if ltK (kyR y) (kyR x) then y :: mrgV (x :: a) b else x :: mrgV a (y :: b)
end
theorem mrgV_nil (b : List VR) : mrgV [] b = b := by cases b <;> simp [mrgV]
theorem mrgV_nil' (a : List VR) : mrgV a [] = a := by cases a <;> simp [mrgV]
theorem mrgV_r {x y : VR} {a b : List VR} (h : ltK (kyR y) (kyR x)) : mrgV (x :: a) (y :: b) = y :: mrgV (x :: a) b := by rw [mrgV, if_pos h]
theorem mrgV_l {x y : VR} {a b : List VR} (h : ¬ ltK (kyR y) (kyR x)) : mrgV (x :: a) (y :: b) = x :: mrgV a (y :: b) := by rw [mrgV, if_neg h]
theorem mrgV_perm : ∀ (a b : List VR), (mrgV a b).Perm (a ++ b)
  | [], b => by rw [mrgV_nil]; exact List.Perm.refl _
  | x :: a, [] => by rw [mrgV_nil', List.append_nil]
  | x :: a, y :: b => by
    by_cases h : ltK (kyR y) (kyR x)
    · rw [mrgV_r h]
      exact ((mrgV_perm (x :: a) b).cons y).trans (List.perm_middle (l₁ := x :: a)).symm
    · rw [mrgV_l h]
      exact (mrgV_perm a (y :: b)).cons x
def SrtV (l : List VR) : Prop := l.Pairwise fun p q => leK (kyR p) (kyR q)
theorem mrgV_sorted : ∀ {a b : List VR}, SrtV a → SrtV b → SrtV (mrgV a b)
  | [], b, _, hb => by rw [mrgV_nil]; exact hb
  | x :: a, [], ha, _ => by rw [mrgV_nil']; exact ha
  | x :: a, y :: b, ha, hb => by
    have ha' := List.pairwise_cons.1 ha
    have hb' := List.pairwise_cons.1 hb
    by_cases h : ltK (kyR y) (kyR x)
    · rw [mrgV_r h]
      refine List.pairwise_cons.2 ⟨fun z hz => ?_, mrgV_sorted ha hb'.2⟩
      rcases List.mem_append.1 ((mrgV_perm _ _).mem_iff.1 hz) with hz | hz
      · have hyx : leK (kyR y) (kyR x) := fun e => ltK_irr _ (ltK_trans h e)
        rcases List.mem_cons.1 hz with rfl | hz
        · exact hyx
        · exact leK_trans hyx (ha'.1 z hz)
      · exact hb'.1 z hz
    · rw [mrgV_l h]
      refine List.pairwise_cons.2 ⟨fun z hz => ?_, mrgV_sorted ha'.2 hb⟩
      rcases List.mem_append.1 ((mrgV_perm _ _).mem_iff.1 hz) with hz | hz
      · exact ha'.1 z hz
      · rcases List.mem_cons.1 hz with rfl | hz
        · exact h
        · exact leK_trans h (hb'.1 z hz)
/-- what sorting makes -/
def Ordd (l r : List VR) : Prop := r.Perm l ∧ SrtV r
theorem Ordd.short {l : List VR} (h : l.length < 2) : Ordd l l := by
  refine ⟨List.Perm.refl _, ?_⟩
  match l, h with
  | [], _ => exact List.Pairwise.nil
  | [a], _ => exact List.pairwise_singleton _ _
theorem Ordd.mrg {l a b : List VR} {k : Nat} (ha : Ordd (l.take k) a) (hb : Ordd (l.drop k) b) : Ordd l (mrgV a b) :=
  ⟨(mrgV_perm a b).trans ((ha.1.append hb.1).trans (by rw [List.take_append_drop])), mrgV_sorted ha.2 hb.2⟩
theorem Ordd.length {l r : List VR} (h : Ordd l r) : r.length = l.length := h.1.length_eq
/-- the two sorted lists are of the same keys iff the lists are permutations of each other -/
theorem ordd_dif {l m r s : List VR} (hr : Ordd l r) (hs : Ordd m s) : r.map kyR = s.map kyR ↔ difB l m = false := by
  rw [difB_iff]
  constructor
  · intro h
    exact ((hr.1.map kyR).symm.trans (by rw [h])).trans (hs.1.map kyR)
  · intro h
    refine sortedK_eq ?_ ?_ (((hr.1.map kyR).trans h).trans (hs.1.map kyR).symm)
    · rw [List.pairwise_map]; exact hr.2
    · rw [List.pairwise_map]; exact hs.2
end Go.Proofs.YtpifjhoelnacgaaGreat
