/- More plain laws of spans: the program's bounds and slices, lengths. -/
import Derived.Test.YtimhehnmmjgeaaaGreatDoorSpP
import Derived.Lib.SlicesCompact
set_option linter.unusedSimpArgs false
set_option linter.unusedVariables false
namespace Go.Proofs.YtimhehnmmjgeaaaGreatDoor

/-! the bounds -/
def bndF (l : List (Int × Int)) : List Int := (l.filter pvB).flatMap fun p => [p.1, p.2]
theorem bndF_cons (p : Int × Int) (l : List (Int × Int)) : bndF (p :: l) = (if pvB p then [p.1, p.2] else []) ++ bndF l := by
  unfold bndF; rw [List.filter_cons]; split <;> simp
theorem bndF_length : ∀ (l : List (Int × Int)), (bndF l).length ≤ 2 * l.length
  | [] => by simp [bndF]
  | p :: l => by have := bndF_length l; rw [bndF_cons]; split <;> simp <;> omega
theorem mem_bndF {z : Int} {l : List (Int × Int)} : z ∈ bndF l ↔ ∃ p ∈ l, pvB p = true ∧ (z = p.1 ∨ z = p.2) := by
  unfold bndF
  simp only [List.mem_flatMap, List.mem_filter, List.mem_cons, List.not_mem_nil, or_false, and_assoc]
theorem compactUpTo_asc (d : Array Int) (hs : ∀ i j, i < j → j < d.size → d[i]! ≤ d[j]!) : ∀ m, m ≤ d.size → (Lib.compactUpTo d m).Pairwise (· < ·) ∧ ∀ z, z ∈ Lib.compactUpTo d m ↔ ∃ j, j < m ∧ d[j]! = z
  | 0, _ => by simp [Lib.compactUpTo]
  | m + 1, h => by
    obtain ⟨h1, h2⟩ := compactUpTo_asc d hs m (by omega)
    rw [Lib.compactUpTo_succ]
    by_cases hk : Lib.keeps d m = true
    · rw [if_pos hk]
      have hlt : ∀ z ∈ Lib.compactUpTo d m, z < d[m]! := by
        intro z hz
        obtain ⟨j, hj, rfl⟩ := (h2 z).1 hz
        have hm : m ≠ 0 := by omega
        have hne : d[m]! ≠ d[m - 1]! := by
          intro he; simp [Lib.keeps, hm, he] at hk
        have e1 := hs (m - 1) m (by omega) (by omega)
        rcases Nat.lt_or_ge j (m - 1) with h3 | h3
        · have e2 := hs j (m - 1) h3 (by omega); omega
        · obtain rfl : j = m - 1 := by omega
          omega
      refine ⟨List.pairwise_append.2 ⟨h1, List.pairwise_singleton _ _, fun a ha b hb => ?_⟩, fun z => ?_⟩
      · simp at hb; subst hb; exact hlt a ha
      · rw [List.mem_append, h2]
        constructor
        · rintro (⟨j, hj, e⟩ | e)
          · exact ⟨j, by omega, e⟩
          · simp at e; exact ⟨m, by omega, e.symm⟩
        · rintro ⟨j, hj, e⟩
          rcases Nat.lt_or_ge j m with h3 | h3
          · exact .inl ⟨j, h3, e⟩
          · obtain rfl : j = m := by omega
            exact .inr (by simp [e])
    · rw [if_neg hk, List.append_nil]
      refine ⟨h1, fun z => ?_⟩
      rw [h2]
      have hm : m ≠ 0 ∧ d[m]! = d[m - 1]! := by
        simp only [Lib.keeps] at hk
        constructor
        · rintro rfl; simp at hk
        · simp at hk; first | exact hk.2 | exact hk.2.symm
      constructor
      · rintro ⟨j, hj, e⟩; exact ⟨j, by omega, e⟩
      · rintro ⟨j, hj, e⟩
        rcases Nat.lt_or_ge j m with h3 | h3
        · exact ⟨j, h3, e⟩
        · obtain rfl : j = m := by omega
          exact ⟨j - 1, by omega, by rw [← hm.2]; exact e⟩
theorem points_eq (l : List (Int × Int)) : Lib.compact ((bndF l).mergeSort fun x y => decide (x ≤ y)) = ptsF l := by
  have hp := List.mergeSort_perm (bndF l) (fun x y => decide (x ≤ y))
  have hs : ((bndF l).mergeSort fun x y => decide (x ≤ y)).Pairwise (fun x y => decide (x ≤ y) = true) := List.pairwise_mergeSort (by intro a b c; simp; omega) (by intro a b; simp; omega) _
  generalize (bndF l).mergeSort (fun x y => decide (x ≤ y)) = zs at hp hs
  have hs' : ∀ i j, i < j → j < zs.toArray.size → zs.toArray[i]! ≤ zs.toArray[j]! := by
    intro i j hij hj
    have hj' : j < zs.length := by simpa using hj
    have := List.pairwise_iff_getElem.1 hs i j (by omega) hj' hij
    simp only [decide_eq_true_eq] at this
    rw [getElem!_pos zs.toArray i (by simp; omega), getElem!_pos zs.toArray j hj]
    simpa using this
  obtain ⟨h1, h2⟩ := compactUpTo_asc zs.toArray hs' zs.length (by simp)
  refine asc_unique h1 (sorted_ptsF l) fun z => ?_
  show z ∈ Lib.compactUpTo zs.toArray zs.length ↔ _
  rw [h2, mem_ptsF, ← mem_bndF, ← hp.mem_iff, List.mem_iff_getElem]
  constructor
  · rintro ⟨j, hj, e⟩; exact ⟨j, hj, by rw [getElem!_pos zs.toArray j (by simpa using hj)] at e; simpa using e⟩
  · rintro ⟨j, hj, e⟩; exact ⟨j, hj, by rw [getElem!_pos zs.toArray j (by simpa using hj)]; simpa using e⟩

/-! the instants of a list -/
def ofK (a b : Bool) : Bool := a || b
def ofF (l : List (Int × Int)) : List (Int × Int) := combF ofK l []
theorem ofF_in (l : List (Int × Int)) (t : Int) : inL (ofF l) t = inL l t := by
  unfold ofF
  rw [(combF_inv ofK l []).2.2]
  refine bool_eq ?_
  simp only [ofK, inL_nil, Bool.or_false, Bool.and_eq_true, decide_eq_true_eq]
  exact ⟨fun h => h.2, fun h => ⟨inL_rng h, h⟩⟩
theorem ofF_can (l : List (Int × Int)) : Can (ofF l) := (combF_inv ofK l []).1
theorem can_take {l : List (Int × Int)} (h : Can l) (k : Nat) : Can (l.take k) := ⟨fun p hp => h.1 p (List.mem_of_mem_take hp), h.2.take⟩
theorem can_at {l : List (Int × Int)} (h : Can l) {k : Nat} {x : Int} (h1 : ∀ q ∈ l.take k, q.2 ≤ x) (hk : k < l.length) (hx : x < l[k].2) : inL l x = decide (l[k].1 ≤ x) := by
  refine bool_eq ?_
  rw [inL_iff, decide_eq_true_eq]
  have hv := pvB_iff.1 (h.1 _ (List.getElem_mem hk))
  constructor
  · rintro ⟨p, hp, hi⟩
    have hi := inP_iff.1 hi
    obtain ⟨j, hj, rfl⟩ := List.getElem_of_mem hp
    rcases Nat.lt_trichotomy j k with h3 | h3 | h3
    · have := h1 l[j] (by rw [List.mem_take_iff_getElem]; exact ⟨j, by omega, rfl⟩)
      omega
    · subst h3; omega
    · have := List.pairwise_iff_getElem.1 h.2 k j hk hj h3
      omega
  · intro hle
    exact ⟨l[k], List.getElem_mem hk, inP_iff.2 (by omega)⟩
theorem can_past {l : List (Int × Int)} {k : Nat} {x : Int} (h1 : ∀ q ∈ l.take k, q.2 ≤ x) (hk : ¬ k < l.length) : inL l x = false := by
  rw [Bool.eq_false_iff]
  intro h
  obtain ⟨p, hp, hi⟩ := inL_iff.1 h
  have := h1 p (by rw [List.take_of_length_le (by omega)]; exact hp)
  have := inP_iff.1 hi
  omega

/-! pairs of neighbors -/
theorem pairsF_drop {ps : List Int} {i : Nat} (h : i + 1 < ps.length) : pairsF (ps.drop i) = (ps[i], ps[i + 1]) :: pairsF (ps.drop (i + 1)) := by
  rw [List.drop_eq_getElem_cons (show i < ps.length by omega), List.drop_eq_getElem_cons h, pairsF]
theorem pairsF_end {ps : List Int} {i : Nat} (h : ¬ i + 1 < ps.length) : pairsF (ps.drop i) = [] := by
  rcases Nat.lt_or_ge i ps.length with h1 | h1
  · rw [List.drop_eq_getElem_cons h1, List.drop_eq_nil_of_le (by omega)]; rfl
  · rw [List.drop_eq_nil_of_le h1]; rfl
theorem pairsF_length : ∀ (ps : List Int), (pairsF ps).length = ps.length - 1
  | [] => rfl
  | [_] => rfl
  | a :: b :: r => by have := pairsF_length (b :: r); simp [pairsF] at *; omega
theorem insF_length (n : Int) : ∀ (l : List Int), (insF l n).length ≤ l.length + 1
  | [] => by simp [insF]
  | x :: l => by have := insF_length n l; simp only [insF]; split <;> (try split) <;> simp <;> omega
theorem ptsG_length : ∀ (l : List (Int × Int)) (acc : List Int), (ptsG acc l).length ≤ acc.length + 2 * l.length
  | [], acc => by simp [ptsG]
  | p :: l, acc => by
    have h := ptsG_length l (if pvB p then insF (insF acc p.1) p.2 else acc)
    have h1 := insF_length p.2 (insF acc p.1)
    have h2 := insF_length p.1 acc
    rw [ptsG]
    split at h <;> rename_i hv <;> simp [hv] <;> omega
theorem ptsF_length (l : List (Int × Int)) : (ptsF l).length ≤ 2 * l.length := by have := ptsG_length l []; simpa [ptsF] using this
theorem slcF_length (l : List (Int × Int)) : (slcF l).length ≤ 2 * l.length := by
  have := List.length_filter_le (fun p => inL l p.1) (pairsF (ptsF l))
  have h1 := pairsF_length (ptsF l)
  have h2 := ptsF_length l
  unfold slcF
  omega

/-! lengths -/
def lenF (l : List (Int × Int)) : Int := (l.map fun p => p.2 - p.1).sum
def cnt (f : Int → Bool) : Nat → Int
  | 0 => 0
  | n + 1 => cnt f n + if f n then 1 else 0
theorem cnt_le (f : Int → Bool) : ∀ n : Nat, 0 ≤ cnt f n ∧ cnt f n ≤ n
  | 0 => by simp [cnt]
  | n + 1 => by have := cnt_le f n; simp only [cnt]; split <;> omega
theorem cnt_congr {f g : Int → Bool} : ∀ n : Nat, (∀ t : Int, 0 ≤ t → t < n → f t = g t) → cnt f n = cnt g n
  | 0, _ => rfl
  | n + 1, h => by simp only [cnt]; rw [cnt_congr n fun t h0 h1 => h t h0 (by omega), h n (by omega) (by omega)]
theorem cnt_or (f g : Int → Bool) : ∀ n : Nat, cnt (fun t => f t || g t) n + cnt (fun t => f t && g t) n = cnt f n + cnt g n
  | 0 => rfl
  | n + 1 => by
    have := cnt_or f g n
    simp only [cnt]
    by_cases hf : f n = true <;> by_cases hg : g n = true <;> simp [hf, hg] <;> omega
theorem cnt_sub (f g : Int → Bool) : ∀ n : Nat, cnt (fun t => f t && !g t) n = cnt f n - cnt (fun t => f t && g t) n
  | 0 => rfl
  | n + 1 => by
    have := cnt_sub f g n
    simp only [cnt]
    by_cases hf : f n = true <;> by_cases hg : g n = true <;> simp [hf, hg] <;> omega
theorem cnt_false : ∀ n : Nat, cnt (fun _ => false) n = 0
  | 0 => rfl
  | n + 1 => by simp [cnt, cnt_false n]
theorem cnt_inP {p : Int × Int} (h : pvB p = true) : ∀ n : Nat, cnt (inP p) n = if (n : Int) ≤ p.1 then 0 else if (n : Int) ≤ p.2 then n - p.1 else p.2 - p.1
  | 0 => by have := pvB_iff.1 h; simp [cnt]; omega
  | n + 1 => by
    have hv := pvB_iff.1 h
    rw [cnt, cnt_inP h n]
    by_cases hi : inP p n = true
    · have := inP_iff.1 hi
      rw [if_pos hi]
      split <;> split <;> (try split) <;> (try split) <;> omega
    · have hn : ¬ (p.1 ≤ (n : Int) ∧ (n : Int) < p.2) := fun h' => hi (inP_iff.2 (by omega))
      rw [if_neg hi]
      split <;> split <;> (try split) <;> (try split) <;> omega
theorem lenF_cnt : ∀ {l : List (Int × Int)}, Can l → ∀ {n : Nat}, (n : Int) = 1099511627776 → lenF l = cnt (inL l) n
  | [], _, n, _ => by
    have : inL [] = fun _ => false := rfl
    rw [this, cnt_false]; rfl
  | p :: l, h, n, hn => by
    obtain ⟨h1, h2, h3⟩ := can_cons.1 h
    have hv := pvB_iff.1 h1
    have ih := lenF_cnt h3 hn
    have hor := cnt_or (inP p) (inL l) n
    have hand : cnt (fun t => inP p t && inL l t) n = 0 := by
      rw [cnt_congr (g := fun _ => false) n fun t _ _ => ?_, cnt_false]
      rw [Bool.eq_false_iff]
      intro hb
      simp only [Bool.and_eq_true] at hb
      have hp := inP_iff.1 hb.1
      rw [can_gap h (by omega)] at hb
      simp at hb
    have hP := cnt_inP h1 n
    rw [if_neg (by omega)] at hP
    have e : (if (n : Int) ≤ p.2 then (n : Int) - p.1 else p.2 - p.1) = p.2 - p.1 := by split <;> omega
    rw [e] at hP
    have hl : lenF (p :: l) = (p.2 - p.1) + lenF l := by simp [lenF]
    have hc : inL (p :: l) = fun t => inP p t || inL l t := funext fun t => inL_cons p l t
    rw [hl, hc, ih]
    omega
theorem lenF_bound {l : List (Int × Int)} (h : Can l) : 0 ≤ lenF l ∧ lenF l ≤ 1099511627776 := by
  obtain ⟨n, hn⟩ : ∃ n : Nat, (n : Int) = 1099511627776 := ⟨1099511627776, rfl⟩
  have := cnt_le (inL l) n
  rw [lenF_cnt h hn]
  omega
theorem lenF_take_succ {l : List (Int × Int)} {k : Nat} (h : k < l.length) : lenF (l.take (k + 1)) = lenF (l.take k) + (l[k].2 - l[k].1) := by
  rw [List.take_succ_eq_append_getElem h]; unfold lenF; rw [List.map_append, List.sum_append]; simp
theorem lenF_zero {l : List (Int × Int)} (h : Can l) : lenF l = 0 ↔ l.length = 0 := by
  cases l with
  | nil => simp [lenF]
  | cons p l =>
    obtain ⟨h1, _, h3⟩ := can_cons.1 h
    have := pvB_iff.1 h1
    have := lenF_bound h3
    have hl : lenF (p :: l) = (p.2 - p.1) + lenF l := by simp [lenF]
    rw [hl, List.length_cons]
    omega
/-- the next instant from t on -/
def nextF (t : Int) : List (Int × Int) → Int × Bool
  | [] => (0, false)
  | p :: l => if t < p.2 then (if t < p.1 then p.1 else t, true) else nextF t l

/-! the combinations by name -/
def interK (a b : Bool) : Bool := a && b
def subK (a b : Bool) : Bool := a && !b
def norK (a b : Bool) : Bool := !a && !b
theorem combF_in (k : Bool → Bool → Bool) (a b : List (Int × Int)) (t : Int) : inL (combF k a b) t = (decide (0 ≤ t ∧ t < 1099511627776) && k (inL a t) (inL b t)) := (combF_inv k a b).2.2 t
theorem combF_can (k : Bool → Bool → Bool) (a b : List (Int × Int)) : Can (combF k a b) := (combF_inv k a b).1
theorem combF_eq {k k' : Bool → Bool → Bool} {a b a' b' : List (Int × Int)} (h : ∀ t, 0 ≤ t → t < 1099511627776 → k (inL a t) (inL b t) = k' (inL a' t) (inL b' t)) : combF k a b = combF k' a' b' := (combF_inv k a b).eq (combF_inv k' a' b') h
theorem can_ofF {l : List (Int × Int)} (h : Can l) : ofF l = l := can_unique (ofF_can l) h (ofF_in l)
end Go.Proofs.YtimhehnmmjgeaaaGreatDoor
