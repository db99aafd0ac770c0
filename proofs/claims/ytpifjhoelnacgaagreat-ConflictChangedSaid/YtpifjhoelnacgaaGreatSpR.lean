/- Plain laws of slices (a selection of those of the law SpanSlices, for other texts). -/
import Derived.Test.YtpifjhoelnacgaaGreatSpQ
set_option linter.unusedSimpArgs false
set_option linter.unusedVariables false
namespace Go.Proofs.YtpifjhoelnacgaaGreat

theorem pairs_mem {x y : Int} : ∀ {ps : List Int}, ps.Pairwise (· < ·) → (x, y) ∈ pairsF ps → x ∈ ps ∧ y ∈ ps ∧ x < y ∧ ∀ b ∈ ps, ¬ (x < b ∧ b < y)
  | [], _, h => by simp [pairsF] at h
  | [a], _, h => by simp [pairsF] at h
  | a :: b :: r, hp, h => by
    obtain ⟨h1, h2⟩ := List.pairwise_cons.1 hp
    rw [pairsF] at h
    rcases List.mem_cons.1 h with h | h
    · simp only [Prod.mk.injEq] at h
      obtain ⟨rfl, rfl⟩ := h
      refine ⟨by simp, by simp, h1 y (by simp), fun c hc => ?_⟩
      rcases List.mem_cons.1 hc with rfl | hc
      · omega
      · rcases List.mem_cons.1 hc with rfl | hc
        · omega
        · have := (List.pairwise_cons.1 h2).1 c hc; omega
    · obtain ⟨i1, i2, i3, i4⟩ := pairs_mem h2 h
      refine ⟨List.mem_cons_of_mem _ i1, List.mem_cons_of_mem _ i2, i3, fun c hc => ?_⟩
      rcases List.mem_cons.1 hc with rfl | hc
      · have := h1 x i1; omega
      · exact i4 c hc
theorem pairs_asc : ∀ {ps : List Int}, ps.Pairwise (· < ·) → (pairsF ps).Pairwise (fun p q => p.2 ≤ q.1)
  | [], _ => List.Pairwise.nil
  | [a], _ => List.Pairwise.nil
  | a :: b :: r, hp => by
    obtain ⟨h1, h2⟩ := List.pairwise_cons.1 hp
    rw [pairsF, List.pairwise_cons]
    refine ⟨fun q hq => ?_, pairs_asc h2⟩
    obtain ⟨i1, _⟩ := pairs_mem (x := q.1) (y := q.2) h2 hq
    rcases List.mem_cons.1 i1 with h | h
    · simp only; omega
    · have := (List.pairwise_cons.1 h2).1 _ h; simp only; omega
theorem pairs_find {t : Int} : ∀ {ps : List Int}, ps.Pairwise (· < ·) → (∃ a ∈ ps, a ≤ t) → (∃ b ∈ ps, t < b) → ∃ x y, (x, y) ∈ pairsF ps ∧ x ≤ t ∧ t < y
  | [], _, ⟨a, ha, _⟩, _ => by simp at ha
  | [c], _, ⟨a, ha, h1⟩, ⟨b, hb, h2⟩ => by simp at ha hb; subst ha hb; omega
  | c :: d :: r, hp, ⟨a, ha, h1⟩, ⟨b, hb, h2⟩ => by
    obtain ⟨p1, p2⟩ := List.pairwise_cons.1 hp
    by_cases hd : t < d
    · refine ⟨c, d, by simp [pairsF], ?_, hd⟩
      rcases List.mem_cons.1 ha with rfl | ha
      · exact h1
      · rcases List.mem_cons.1 ha with rfl | ha'
        · omega
        · have := (List.pairwise_cons.1 p2).1 a ha'; omega
    · have hb' : b ∈ d :: r := by
        rcases List.mem_cons.1 hb with rfl | hb
        · have := p1 d (by simp); omega
        · exact hb
      obtain ⟨x, y, h3, h4⟩ := pairs_find p2 ⟨d, by simp, by omega⟩ ⟨b, hb', h2⟩
      exact ⟨x, y, by rw [pairsF]; exact List.mem_cons_of_mem _ h3, h4⟩
theorem slc_mem {l : List (Int × Int)} {p : Int × Int} (h : p ∈ slcF l) : pvB p = true ∧ inL l p.1 = true ∧ ∀ q ∈ l, pvB q = true → ¬ (p.1 < q.1 ∧ q.1 < p.2) ∧ ¬ (p.1 < q.2 ∧ q.2 < p.2) := by
  unfold slcF at h
  obtain ⟨h1, h2⟩ := List.mem_filter.1 h
  obtain ⟨i1, i2, i3, i4⟩ := pairs_mem (x := p.1) (y := p.2) (sorted_ptsF l) h1
  have r : ∀ z ∈ ptsF l, 0 ≤ z ∧ z ≤ 1099511627776 := fun z hz => by
    obtain ⟨q, _, hv, hh⟩ := mem_ptsF.1 hz
    have := pvB_iff.1 hv
    rcases hh with rfl | rfl <;> omega
  have r1 := r _ i1
  have r2 := r _ i2
  refine ⟨pvB_iff.2 (by omega), h2, fun q hq hv => ⟨i4 _ (mem_ptsF.2 ⟨q, hq, hv, .inl rfl⟩), i4 _ (mem_ptsF.2 ⟨q, hq, hv, .inr rfl⟩)⟩⟩
theorem slc_asc (l : List (Int × Int)) : (slcF l).Pairwise (fun p q => p.2 ≤ q.1) := (pairs_asc (sorted_ptsF l)).filter _
theorem slc_in (l : List (Int × Int)) (t : Int) : inL (slcF l) t = inL l t := by
  refine bool_eq ?_
  constructor
  · intro h
    obtain ⟨p, hp, hi⟩ := inL_iff.1 h
    obtain ⟨h1, h2, h3⟩ := slc_mem hp
    have hi := inP_iff.1 hi
    rw [inL_const (x := p.1) (y := p.2) hi.2.1 hi.2.2.1 h3]; exact h2
  · intro h
    obtain ⟨q, hq, hi⟩ := inL_iff.1 h
    have hi := inP_iff.1 hi
    have hv : pvB q = true := pvB_iff.2 (by omega)
    obtain ⟨x, y, h1, h2, h3⟩ := pairs_find (t := t) (sorted_ptsF l) ⟨q.1, mem_ptsF.2 ⟨q, hq, hv, .inl rfl⟩, by omega⟩ ⟨q.2, mem_ptsF.2 ⟨q, hq, hv, .inr rfl⟩, by omega⟩
    obtain ⟨i1, i2, i3, i4⟩ := pairs_mem (sorted_ptsF l) h1
    have hb : ∀ p ∈ l, pvB p = true → ¬ (x < p.1 ∧ p.1 < y) ∧ ¬ (x < p.2 ∧ p.2 < y) := fun p hp hv => ⟨i4 _ (mem_ptsF.2 ⟨p, hp, hv, .inl rfl⟩), i4 _ (mem_ptsF.2 ⟨p, hp, hv, .inr rfl⟩)⟩
    have hx : inL l x = true := by rw [← inL_const h2 h3 hb]; exact h
    have hm : (x, y) ∈ slcF l := List.mem_filter.2 ⟨h1, hx⟩
    have hpv := pvB_iff.1 (slc_mem hm).1
    simp only at hpv
    exact inL_iff.2 ⟨_, hm, inP_iff.2 (by simp only; omega)⟩

end Go.Proofs.YtpifjhoelnacgaaGreat
