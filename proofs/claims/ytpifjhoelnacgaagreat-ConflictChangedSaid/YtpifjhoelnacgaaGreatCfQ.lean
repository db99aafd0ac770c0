/- Regions of tables: plain laws of the reference's merging. -/
import Derived.Test.YtpifjhoelnacgaaGreatCfA
set_option linter.unusedSimpArgs false
set_option linter.unusedVariables false
namespace Go.Proofs.YtpifjhoelnacgaaGreat

/-- a not behind b -/
def leA (a b : Acc) : Prop := tb a < tb b ∨ tb a = tb b ∧ a.2.1 ≤ b.2.1
theorem tri (s t : List UInt8) : s < t ∨ s = t ∨ t < s := by
  rcases Classical.em (s < t) with h | h
  · exact .inl h
  · rcases Classical.em (t < s) with h2 | h2
    · exact .inr (.inr h2)
    · exact .inr (.inl (List.le_antisymm (List.not_lt.1 h2) (List.not_lt.1 h)))
theorem beF_false {a b : Acc} : beF a b = false ↔ leA b a := by
  unfold beF leA
  simp only [Bool.or_eq_false_iff, Bool.and_eq_false_iff, decide_eq_false_iff_not]
  rcases tri (tb a) (tb b) with h | h | h
  · have h1 : ¬ tb b < tb a := fun e => lt_irr _ (List.lt_trans h e)
    have h2 : tb b ≠ tb a := fun e => by rw [e] at h; exact lt_irr _ h
    simp [h, h1, h2]
  · simp [h, lt_irr]
  · have h1 : ¬ tb a < tb b := fun e => lt_irr _ (List.lt_trans h e)
    have h2 : ¬ tb a = tb b := fun e => by rw [e] at h; exact lt_irr _ h
    simp [h, h1, h2]
theorem beF_true {a b : Acc} (h : beF a b = true) : leA a b := by
  unfold beF at h
  simp only [Bool.or_eq_true, Bool.and_eq_true, decide_eq_true_eq] at h
  rcases h with h | ⟨h, k⟩
  · exact .inl h
  · exact .inr ⟨h, by omega⟩
theorem leA.trans {a b c : Acc} (h : leA a b) (k : leA b c) : leA a c := by
  rcases h with h | ⟨h, h'⟩ <;> rcases k with k | ⟨k, k'⟩
  · exact .inl (List.lt_trans h k)
  · exact .inl (k ▸ h)
  · exact .inl (h ▸ k)
  · exact .inr ⟨h.trans k, by omega⟩
/-- what was sorted so far, a put in at i -/
theorem put_sorted {S : List Acc} {a : Acc} {i : Nat} (h : S.Pairwise leA) (hi : i ≤ S.length) (h1 : ∀ b ∈ S.drop i, beF a b = true) (h2 : ∀ (h0 : 0 < i) , beF a (S[i - 1]'(by omega)) = false) : (S.take i ++ [a] ++ S.drop i).Pairwise leA := by
  have hs := h
  rw [← List.take_append_drop i S, List.pairwise_append] at hs
  rw [List.pairwise_append, List.pairwise_append]
  have ht : ∀ x ∈ S.take i, leA x a := fun x hx => by
    obtain ⟨j, hj, rfl⟩ := List.getElem_of_mem hx
    simp at hj
    have h0 : 0 < i := by omega
    have h3 := beF_false.1 (h2 h0)
    rw [List.getElem_take]
    rcases (by omega : j = i - 1 ∨ j < i - 1) with rfl | hlt
    · exact h3
    · exact (List.pairwise_iff_getElem.1 h j (i - 1) (by omega) (by omega) hlt).trans h3
  refine ⟨⟨hs.1, List.pairwise_singleton _ _, fun x hx y hy => by simp at hy; subst hy; exact ht x hx⟩, hs.2.1, fun x hx y hy => ?_⟩
  rcases List.mem_append.1 hx with hx | hx
  · exact hs.2.2 x hx y hy
  · simp at hx; subst hx; exact beF_true (h1 y hy)
/-- one step of merging -/
def mstep (out : List Acc) (a : Acc) : List Acc :=
  match out.getLast? with
  | none => [a]
  | some q => if tb q = tb a ∧ a.2.1 ≤ q.2.2 then out.dropLast ++ [(q.1, (q.2.1, max q.2.2 a.2.2))] else out ++ [a]
theorem mstep_nil (a : Acc) : mstep [] a = [a] := rfl
theorem mstep_yes {o : List Acc} {q a : Acc} (h : tb q = tb a ∧ a.2.1 ≤ q.2.2) : mstep (o ++ [q]) a = o ++ [(q.1, (q.2.1, max q.2.2 a.2.2))] := by simp [mstep, h]
theorem mstep_no {o : List Acc} {q a : Acc} (h : ¬ (tb q = tb a ∧ a.2.1 ≤ q.2.2)) : mstep (o ++ [q]) a = o ++ [q] ++ [a] := by
  unfold mstep
  rw [List.getLast?_concat]
  simp only [if_neg h]
def MInv (out rest : List Acc) : Prop := CanT out ∧ ∀ q ∈ out, ∀ b ∈ rest, leA q b
theorem inT_append (a b : List Acc) (t : List UInt8) (x : Int) : inT (a ++ b) t x = (inT a t x || inT b t x) := by simp [inT]
theorem inT_one (a : Acc) (t : List UInt8) (x : Int) : inT [a] t x = (decide (tb a = t) && inP a.2 x) := by simp [inT]
theorem mstep_ok {out rest : List Acc} {a : Acc} (h : MInv out (a :: rest)) (hv : pvB a.2 = true) (hs : ∀ b ∈ rest, leA a b) :
    MInv (mstep out a) rest ∧ ∀ t x, inT (mstep out a) t x = (inT out t x || (decide (tb a = t) && inP a.2 x)) := by
  obtain ⟨hc, hq⟩ := h
  rcases List.eq_nil_or_concat out with rfl | ⟨o, q, rfl⟩
  · rw [mstep_nil]
    refine ⟨⟨⟨by simpa using hv, List.pairwise_singleton _ _⟩, fun q hq b hb => by simp at hq; subst hq; exact hs b hb⟩, fun t x => by rw [inT_one]; simp [inT]⟩
  · rw [List.concat_eq_append] at *
    have hqv := hc.1 q (by simp)
    have hpw := List.pairwise_append.1 hc.2
    have hqa := hq q (by simp) a (by simp)
    by_cases hy : tb q = tb a ∧ a.2.1 ≤ q.2.2
    · rw [mstep_yes hy]
      rw [pvB_iff] at hv hqv
      have hle : q.2.1 ≤ a.2.1 := by
        rcases hqa with h1 | ⟨_, h2⟩
        · rw [hy.1] at h1; exact absurd h1 (lt_irr _)
        · exact h2
      refine ⟨⟨⟨fun c hcm => ?_, ?_⟩, fun c hcm b hb => ?_⟩, fun t x => ?_⟩
      · rcases List.mem_append.1 hcm with h1 | h1
        · exact hc.1 c (by simp [h1])
        · simp at h1; subst h1; rw [pvB_iff]; simp only; omega
      · rw [List.pairwise_append]
        refine ⟨hpw.1, List.pairwise_singleton _ _, fun c hcm d hd => ?_⟩
        simp at hd; subst hd
        exact hpw.2.2 c hcm q (by simp)
      · rcases List.mem_append.1 hcm with h1 | h1
        · exact hq c (by simp [h1]) b (by simp [hb])
        · simp at h1; subst h1
          exact hq q (by simp) b (by simp [hb])
      · rw [inT_append, inT_append, inT_one, inT_one, Bool.or_assoc]
        congr 1
        show (decide (tb q = t) && inP (q.2.1, max q.2.2 a.2.2) x) = _
        rw [← hy.1]
        by_cases ht : tb q = t
        · simp only [ht, decide_true, Bool.true_and]
          rw [Bool.eq_iff_iff, Bool.or_eq_true, inP_iff, inP_iff, inP_iff]
          simp only
          omega
        · simp [ht]
    · rw [mstep_no hy]
      refine ⟨⟨⟨fun c hcm => ?_, ?_⟩, fun c hcm b hb => ?_⟩, fun t x => ?_⟩
      · rcases List.mem_append.1 hcm with h1 | h1
        · exact hc.1 c h1
        · simp at h1; subst h1; exact hv
      · rw [List.pairwise_append]
        refine ⟨hc.2, List.pairwise_singleton _ _, fun c hcm d hd => ?_⟩
        simp at hd; subst hd
        have hqd : tb q < tb d ∨ tb q = tb d ∧ q.2.2 < d.2.1 := by
          rcases hqa with h1 | ⟨h1, h2⟩
          · exact .inl h1
          · exact .inr ⟨h1, by rcases (by omega : d.2.1 ≤ q.2.2 ∨ q.2.2 < d.2.1) with h3 | h3; exact absurd ⟨h1, h3⟩ hy; exact h3⟩
        rcases List.mem_append.1 hcm with h1 | h1
        · have hcq := hpw.2.2 c h1 q (by simp)
          rw [pvB_iff] at hqv
          rcases hcq with h2 | ⟨h2, h3⟩ <;> rcases hqd with h4 | ⟨h4, h5⟩
          · exact .inl (List.lt_trans h2 h4)
          · exact .inl (h4 ▸ h2)
          · exact .inl (h2 ▸ h4)
          · exact .inr ⟨h2.trans h4, by omega⟩
        · simp at h1; subst h1; exact hqd
      · rcases List.mem_append.1 hcm with h1 | h1
        · exact hq c h1 b (by simp [hb])
        · simp at h1; subst h1; exact hs b hb
      · rw [inT_append, inT_one]
theorem mstep_length (out : List Acc) (a : Acc) : (mstep out a).length ≤ out.length + 1 := by
  rcases List.eq_nil_or_concat out with rfl | ⟨o, q, rfl⟩
  · simp [mstep_nil]
  · rw [List.concat_eq_append]
    by_cases hy : tb q = tb a ∧ a.2.1 ≤ q.2.2
    · rw [mstep_yes hy]; simp
    · rw [mstep_no hy]; simp
theorem fold_ok : ∀ {S out : List Acc}, MInv out S → S.Pairwise leA → (∀ a ∈ S, pvB a.2 = true) → CanT (S.foldl mstep out) ∧ ∀ t x, inT (S.foldl mstep out) t x = (inT out t x || inT S t x)
  | [], out, h, _, _ => ⟨h.1, fun t x => by simp [inT]⟩
  | a :: S, out, h, hs, hv => by
    obtain ⟨h1, h2⟩ := mstep_ok h (hv a (by simp)) (List.pairwise_cons.1 hs).1
    obtain ⟨h3, h4⟩ := fold_ok h1 (List.pairwise_cons.1 hs).2 fun b hb => hv b (by simp [hb])
    refine ⟨h3, fun t x => ?_⟩
    rw [List.foldl_cons, h4, h2, show a :: S = [a] ++ S from rfl, inT_append, inT_one, Bool.or_assoc]
theorem merge_ok {S : List Acc} (hs : S.Pairwise leA) (hv : ∀ a ∈ S, pvB a.2 = true) : CanT (S.foldl mstep []) ∧ ∀ t x, inT (S.foldl mstep []) t x = inT S t x := by
  obtain ⟨h1, h2⟩ := fold_ok (out := []) ⟨⟨by simp, List.Pairwise.nil⟩, by simp⟩ hs hv
  exact ⟨h1, fun t x => by rw [h2]; simp [inT]⟩
theorem inT_valid (l : List Acc) (t : List UInt8) (x : Int) : inT (l.filter fun a => pvB a.2) t x = inT l t x := by
  rw [Bool.eq_iff_iff]
  simp only [inT, List.any_eq_true, Bool.and_eq_true, decide_eq_true_eq, List.mem_filter]
  constructor
  · rintro ⟨a, ⟨h1, _⟩, h3, h4⟩; exact ⟨a, h1, h3, h4⟩
  · rintro ⟨a, h1, h3, h4⟩
    exact ⟨a, ⟨h1, by rw [inP_iff] at h4; rw [pvB_iff]; omega⟩, h3, h4⟩
theorem inT_perm {l m : List Acc} (h : l.Perm m) (t : List UInt8) (x : Int) : inT l t x = inT m t x := by
  rw [Bool.eq_iff_iff]
  simp only [inT, List.any_eq_true]
  exact ⟨fun ⟨a, h1, h2⟩ => ⟨a, h.mem_iff.1 h1, h2⟩, fun ⟨a, h1, h2⟩ => ⟨a, h.mem_iff.2 h1, h2⟩⟩
end Go.Proofs.YtpifjhoelnacgaaGreat
