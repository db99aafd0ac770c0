/- Plain laws: what the tree answers is what the reference's list answers. -/
import Derived.Test.YtdmbgimehepfaaaBtFr
import Derived.Test.YtdmbgimehepfaaaBtQ
set_option linter.unusedSimpArgs false
set_option linter.unusedVariables false
set_option linter.unusedSimpArgs false
set_option linter.unusedVariables false
namespace Go.Proofs.Ytdmbgimehepfaaa
open Go.RowKit

def kLt (x p : Kp) : Bool := decide (cmpR x.1 p.1 < 0) || (decide (cmpR x.1 p.1 = 0) && decide (x.2 < p.2))
theorem kLt_iff {x p : Kp} : kLt x p = true ↔ ltP x p := by
  unfold kLt ltP
  simp only [Bool.or_eq_true, Bool.and_eq_true, decide_eq_true_eq, cmpR_lt, cmpR_zero]
theorem kLt_no {x p : Kp} (h : ¬ ltP x p) : kLt x p = false := by
  cases hb : kLt x p with
  | false => rfl
  | true => exact absurd (kLt_iff.1 hb) h
theorem filter_kp (f : Kp → Bool) (l : List MP) : (l.filter fun q => f q.kp).map MP.kp = (l.map MP.kp).filter f := by
  rw [List.filter_map]; rfl
theorem filter_id (f : List Va → Bool) (l : List MP) : (l.filter fun q => f q.key).map MP.id = ((l.map MP.kp).filter fun x => f x.1).map Prod.snd := by
  rw [← filter_kp (fun x => f x.1), List.map_map]; rfl
theorem has_kp {l : List MP} {x : Kp} : (∃ q ∈ l, q.kp = x) ↔ x ∈ l.map MP.kp := by simp
/-- Put of both sides -/
theorem put_same {p p' : MP} {l l' lr : List MP} {K : List Va} {id : Int} (h : Ins p l l') (he : l.map MP.kp = lr.map MP.kp) (hp : p.kp = (K, id)) (hp' : p'.kp = (K, id)) :
    l'.map MP.kp = ((lr.filter fun q => (decide (cmpR q.key K < 0) || (decide (cmpR q.key K = 0) && decide (q.id < id)))) ++ p' :: (lr.filter fun q => !(decide (cmpR q.key K < 0) || (decide (cmpR q.key K = 0) && decide (q.id < id))))).map MP.kp := by
  obtain ⟨a, b, rfl, rfl, h1, h2⟩ := h
  have e1 := filter_kp (fun x => kLt x (K, id)) lr
  have e2 := filter_kp (fun x => !kLt x (K, id)) lr
  rw [← he, ← filter_kp, List.filter_append] at e1 e2
  have f1 : (a.filter fun q => kLt q.kp (K, id)) = a := List.filter_eq_self.2 fun x hx => kLt_iff.2 (hp ▸ h1 x hx)
  have f2 : (b.filter fun q => kLt q.kp (K, id)) = [] := List.filter_eq_nil_iff.2 fun x hx => by rw [kLt_no (ltP_asymm (hp ▸ h2 x hx))]; simp
  have f3 : (a.filter fun q => !kLt q.kp (K, id)) = [] := List.filter_eq_nil_iff.2 fun x hx => by rw [kLt_iff.2 (hp ▸ h1 x hx)]; simp
  have f4 : (b.filter fun q => !kLt q.kp (K, id)) = b := List.filter_eq_self.2 fun x hx => by rw [kLt_no (ltP_asymm (hp ▸ h2 x hx))]; rfl
  rw [f1, f2, List.append_nil] at e1
  rw [f3, f4, List.nil_append] at e2
  rw [List.map_append, List.map_cons, List.map_append, List.map_cons, hp, hp', ← e1, ← e2]
  rfl
/-- Delete of both sides -/
theorem del_no {l : List MP} {K : List Va} {id : Int} (h : ¬ ∃ q ∈ l, q.kp = (K, id)) : (l.filter fun q => !(decide (q.id = id) && decide (cmpR q.key K = 0))) = l := by
  refine List.filter_eq_self.2 fun q hq => ?_
  by_cases h1 : q.id = id
  · by_cases h2 : cmpR q.key K = 0
    · exact absurd ⟨q, hq, Prod.ext (cmpR_zero.1 h2) h1⟩ h
    · rw [decide_eq_false h2, Bool.and_false]; rfl
  · rw [decide_eq_false h1]; rfl
theorem rem_srt {l l' : List MP} {x : Kp} (h : Rem x l l') (hs : Srt l) : Srt l' ∧ (∀ q ∈ l', q ∈ l ∧ q.kp ≠ x) ∧ l'.length + 1 = l.length ∧ ∀ q ∈ l, q.kp = x ∨ q ∈ l' := by
  obtain ⟨A, q, B, rfl, rfl, rfl⟩ := h
  unfold Srt at *
  rw [List.pairwise_append] at hs
  have h1 := List.pairwise_cons.1 hs.2.1
  refine ⟨List.pairwise_append.2 ⟨hs.1, h1.2, fun a ha b hb => hs.2.2 a ha b (List.mem_cons_of_mem _ hb)⟩, fun y hy => ?_, by simp; omega, fun y hy => ?_⟩
  · rcases List.mem_append.1 hy with hy | hy
    · refine ⟨by simp [hy], fun e => ?_⟩
      have := hs.2.2 y hy q (by simp)
      rw [e] at this
      exact ltP_irr _ this
    · refine ⟨by simp [hy], fun e => ?_⟩
      have := h1.1 y hy
      rw [e] at this
      exact ltP_irr _ this
  · rcases List.mem_append.1 hy with hy | hy
    · exact .inr (by simp [hy])
    · rcases List.mem_cons.1 hy with rfl | hy
      · exact .inl rfl
      · exact .inr (by simp [hy])
theorem rem_same {l l' lr : List MP} {K : List Va} {id : Int} (h : Rem (K, id) l l') (hs : Srt l) (he : l.map MP.kp = lr.map MP.kp) :
    l'.map MP.kp = (lr.filter fun q => !(decide (q.id = id) && decide (cmpR q.key K = 0))).map MP.kp := by
  have h0 := (rem_srt h hs).2.1
  obtain ⟨A, q, B, rfl, hq, rfl⟩ := h
  have e1 := filter_kp (fun x => !(decide (x.2 = id) && decide (cmpR x.1 K = 0))) lr
  rw [← he, ← filter_kp, List.filter_append] at e1
  have hx : ∀ x : MP, x.kp ≠ (K, id) → (!(decide (x.kp.2 = id) && decide (cmpR x.kp.1 K = 0))) = true := by
    intro x hx
    by_cases h1 : x.kp.2 = id
    · by_cases h2 : cmpR x.kp.1 K = 0
      · exact absurd (Prod.ext (cmpR_zero.1 h2) h1) hx
      · rw [decide_eq_false h2, Bool.and_false]; rfl
    · rw [decide_eq_false h1]; rfl
  have fA : (A.filter fun x => !(decide (x.kp.2 = id) && decide (cmpR x.kp.1 K = 0))) = A := List.filter_eq_self.2 fun x hA => hx x (h0 x (by simp [hA])).2
  have fB : ((q :: B).filter fun x => !(decide (x.kp.2 = id) && decide (cmpR x.kp.1 K = 0))) = B := by
    rw [List.filter_cons, if_neg (by rw [hq]; simp [cmpR_zero.2]), List.filter_eq_self.2 fun x hB => hx x (h0 x (by simp [hB])).2]
  rw [fA, fB] at e1
  exact e1.symm
/-- what is found -/
theorem tw_filter {f : MP → Bool} : ∀ {l : List MP}, (l.Pairwise fun a b => f b = true → f a = true) → l.takeWhile f = l.filter f
  | [], _ => rfl
  | a :: l, h => by
    have h1 := List.pairwise_cons.1 h
    cases ha : f a with
    | true => rw [List.takeWhile_cons_of_pos ha, List.filter_cons_of_pos ha, tw_filter h1.2]
    | false =>
      rw [List.takeWhile_cons_of_neg (by simp [ha]), List.filter_cons_of_neg (by simp [ha]), List.filter_eq_nil_iff.2]
      intro b hb hf
      rw [h1.1 b hb hf] at ha
      cases ha
theorem from_eq {l : List MP} {K : List Va} {cw g : List Va → Bool} (hs : Srt l) (hid : ∀ q ∈ l, -9223372036854775808 ≤ q.id)
    (h1 : ∀ a b, ¬ ltR a K → ¬ ltR b a → cw b = true → cw a = true) (h2 : ∀ a, g a = (!decide (cmpR a K < 0) && cw a)) : fromF l K cw = (l.filter fun q => g q.key).map MP.id := by
  unfold fromF
  have hg : ∀ q ∈ l, geB (K, -9223372036854775808) q = !decide (cmpR q.key K < 0) := by
    intro q hq
    have hi := hid q hq
    by_cases hl : ltR q.key K
    · rw [geB_false (show ltP q.kp (K, -9223372036854775808) from .inl hl), decide_eq_true (cmpR_lt.2 hl)]; rfl
    · rw [geB_true, decide_eq_false (fun e => hl (cmpR_lt.1 e))]; rfl
      rintro (h | ⟨_, h⟩)
      · exact hl h
      · have : q.id < -9223372036854775808 := h
        omega
  rw [List.filter_congr hg, tw_filter, List.filter_filter]
  · congr 1
    exact List.filter_congr fun q _ => by rw [h2, Bool.and_comm]
  · have hp : (l.filter fun q => !decide (cmpR q.key K < 0)).Pairwise fun a b => ltP a.kp b.kp := hs.sublist List.filter_sublist
    refine hp.imp_of_mem fun {a b} ha hb hab hcb => h1 a.key b.key ?_ ?_ hcb
    · have := (List.mem_filter.1 ha).2
      intro h
      rw [decide_eq_true (cmpR_lt.2 h)] at this
      cases this
    · intro h
      exact ltP_asymm hab (.inl h)
theorem get_same {l : List MP} {K : List Va} (hs : Srt l) (hid : ∀ q ∈ l, -9223372036854775808 ≤ q.id) : fromF l K (fun k => decide (cmpR k K = 0)) = (l.filter fun q => decide (cmpR q.key K = 0)).map MP.id := by
  refine from_eq (g := fun k => decide (cmpR k K = 0)) hs hid (fun a b ha hb hc => ?_) fun a => ?_
  · have hc := cmpR_zero.1 (of_decide_eq_true hc)
    subst hc
    rcases ltR_tri a b with h | h | h
    · exact absurd h ha
    · exact decide_eq_true (cmpR_zero.2 h)
    · exact absurd h hb
  · by_cases h : cmpR a K = 0
    · simp [h]
    · simp [h]
theorem range_same {l : List MP} {K K2 : List Va} (hs : Srt l) (hid : ∀ q ∈ l, -9223372036854775808 ≤ q.id) : fromF l K (fun k => decide (cmpR k K2 < 0)) = (l.filter fun q => (decide (0 ≤ cmpR q.key K) && decide (cmpR q.key K2 < 0))).map MP.id := by
  refine from_eq (g := fun k => (decide (0 ≤ cmpR k K) && decide (cmpR k K2 < 0))) hs hid (fun a b ha hb hc => ?_) fun a => ?_
  · have hc := cmpR_lt.1 (of_decide_eq_true hc)
    refine decide_eq_true (cmpR_lt.2 ?_)
    rcases ltR_tri a b with h | h | h
    · exact ltR_trans h hc
    · exact h ▸ hc
    · exact absurd h hb
  · congr 1
    by_cases h : 0 ≤ cmpR a K
    · rw [decide_eq_true h, decide_eq_false (by omega)]; rfl
    · rw [decide_eq_false h, decide_eq_true (by omega)]; rfl
theorem ltR_app : ∀ (K t : List Va), ¬ ltR (K ++ t) K
  | [], t, h => by cases t <;> exact h
  | x :: K, t, h => by
    rcases h with h | ⟨_, h⟩
    · exact ltV_irr x h
    · exact ltR_app K t h
theorem pre_mid : ∀ (K a t : List Va), ¬ ltR a K → ¬ ltR (K ++ t) a → ∃ s, a = K ++ s
  | [], a, _, _, _ => ⟨a, rfl⟩
  | x :: K, [], _, h, _ => absurd trivial h
  | x :: K, y :: a, t, h1, h2 => by
    rcases ltV_tri x y with h | rfl | h
    · exact absurd (.inl h) h2
    · obtain ⟨s, rfl⟩ := pre_mid K a t (fun h => h1 (.inr ⟨rfl, h⟩)) (fun h => h2 (.inr ⟨rfl, h⟩))
      exact ⟨s, rfl⟩
    · exact absurd (.inl h) h1
theorem pre_iff {K a : List Va} : (decide (K.length ≤ a.length) && decide (cmpR (a.take K.length) K = 0)) = true ↔ ∃ s, a = K ++ s := by
  rw [Bool.and_eq_true, decide_eq_true_eq, decide_eq_true_eq, cmpR_zero]
  constructor
  · rintro ⟨_, h⟩
    exact ⟨a.drop K.length, by
      have := List.take_append_drop K.length a
      rw [h] at this
      exact this.symm⟩
  · rintro ⟨s, rfl⟩
    simp
theorem prefix_same {l : List MP} {K : List Va} (hs : Srt l) (hid : ∀ q ∈ l, -9223372036854775808 ≤ q.id) : fromF l K (fun k => (decide (K.length ≤ k.length) && decide (cmpR (k.take K.length) K = 0))) = (l.filter fun q => (decide (K.length ≤ q.key.length) && decide (cmpR (q.key.take K.length) K = 0))).map MP.id := by
  refine from_eq (g := fun k => (decide (K.length ≤ k.length) && decide (cmpR (k.take K.length) K = 0))) hs hid (fun a b ha hb hc => ?_) fun a => ?_
  · obtain ⟨t, rfl⟩ := pre_iff.1 hc
    exact pre_iff.2 (pre_mid K a t ha hb)
  · refine bool_eq ?_
    refine ⟨fun h => Bool.and_eq_true_iff.2 ⟨?_, h⟩, fun h => (Bool.and_eq_true_iff.1 h).2⟩
    obtain ⟨t, rfl⟩ := pre_iff.1 h
    rw [decide_eq_false (fun e => ltR_app K t (cmpR_lt.1 e))]
    rfl
/-- the answers depend on the keys alone -/
theorem find_kp {l lr : List MP} (g : List Va → Bool) (he : l.map MP.kp = lr.map MP.kp) : (l.filter fun q => g q.key).map MP.id = (lr.filter fun q => g q.key).map MP.id := by
  rw [filter_id, filter_id, he]
/-- ranges that meet -/
theorem filter_two {f g : MP → Bool} : ∀ {l : List MP}, (l.Pairwise fun a b => g a = true → f b = false) → (∀ x ∈ l, f x = true → g x = false) → l.filter f ++ l.filter g = l.filter fun x => f x || g x
  | [], _, _ => rfl
  | a :: l, h, hd => by
    have h1 := List.pairwise_cons.1 h
    have ih := filter_two h1.2 fun x hx => hd x (List.mem_cons_of_mem _ hx)
    cases ha : f a with
    | true => rw [List.filter_cons_of_pos ha, List.filter_cons_of_neg (by simp [hd a (by simp) ha]), List.filter_cons_of_pos (by simp [ha]), List.cons_append, ih]
    | false =>
      rw [List.filter_cons_of_neg (by simp [ha])]
      cases hg : g a with
      | true =>
        have hn : l.filter f = [] := List.filter_eq_nil_iff.2 fun b hb => by rw [h1.1 b hb hg]; simp
        rw [hn, List.nil_append] at ih ⊢
        rw [List.filter_cons_of_pos hg, List.filter_cons_of_pos (by simp [hg]), ih]
      | false => rw [List.filter_cons_of_neg (by simp [hg]), List.filter_cons_of_neg (by simp [ha, hg]), ih]
theorem ranges_join {l : List MP} {a b c : List Va} (hs : Srt l) (hab : ¬ 0 < cmpR a b) (hbc : ¬ 0 < cmpR b c) :
    (l.filter fun q => (decide (0 ≤ cmpR q.key a) && decide (cmpR q.key b < 0))).map MP.id ++ (l.filter fun q => (decide (0 ≤ cmpR q.key b) && decide (cmpR q.key c < 0))).map MP.id = (l.filter fun q => (decide (0 ≤ cmpR q.key a) && decide (cmpR q.key c < 0))).map MP.id := by
  have le : ∀ {x y : List Va}, ¬ 0 < cmpR x y → x = y ∨ ltR x y := by
    intro x y h
    rcases Int.lt_trichotomy (cmpR x y) 0 with h1 | h1 | h1
    · exact .inr (cmpR_lt.1 h1)
    · exact .inl (cmpR_zero.1 h1)
    · exact absurd h1 h
  have ge : ∀ {x y : List Va}, 0 ≤ cmpR x y ↔ ¬ ltR x y := fun {x y} => ⟨fun h k => by have := cmpR_lt.2 k; omega, fun h => by
    by_cases k : cmpR x y < 0
    · exact absurd (cmpR_lt.1 k) h
    · omega⟩
  rw [← List.map_append, filter_two]
  · congr 1
    refine List.filter_congr fun q _ => bool_eq ?_
    simp only [Bool.or_eq_true, Bool.and_eq_true, decide_eq_true_eq, ge, cmpR_lt]
    constructor
    · rintro (⟨h1, h2⟩ | ⟨h1, h2⟩)
      · refine ⟨h1, ?_⟩
        rcases le hbc with rfl | h
        · exact h2
        · exact ltR_trans h2 h
      · refine ⟨fun h => ?_, h2⟩
        rcases le hab with rfl | k
        · exact h1 h
        · exact h1 (ltR_trans h k)
    · rintro ⟨h1, h2⟩
      by_cases k : ltR q.key b
      · exact .inl ⟨h1, k⟩
      · exact .inr ⟨k, h2⟩
  · refine hs.imp fun {x y} hxy hg => ?_
    simp only [Bool.and_eq_true, decide_eq_true_eq, ge] at hg
    rw [Bool.and_eq_false_iff]
    refine .inr (decide_eq_false fun h => ?_)
    have h := cmpR_lt.1 h
    rcases hxy with k | ⟨k, _⟩
    · exact hg.1 (ltR_trans k h)
    · have k : x.key = y.key := k
      exact hg.1 (k ▸ h)
  · intro x _ hf
    simp only [Bool.and_eq_true, decide_eq_true_eq] at hf
    rw [Bool.and_eq_false_iff]
    exact .inl (decide_eq_false (by omega))
/-- every key begins with the empty one -/
theorem prefix_nil (l : List MP) : (l.filter fun q => (decide (([] : List Va).length ≤ q.key.length) && decide (cmpR (q.key.take ([] : List Va).length) [] = 0))) = l :=
  List.filter_eq_self.2 fun q _ => by simp [cmpR_nil_nil]
/-- the numbers of pairs of a tree of depth d -/
theorem inter_low : ∀ {ps : List MP} {ks : List (List MP)} {c : Nat}, ks.length = ps.length + 1 → (∀ k ∈ ks, c ≤ k.length + 1) → (ps.length + 1) * c ≤ (inter ps ks).length + 1
  | [], [], _, h, _ => by simp at h
  | [], [k], c, _, h => by
    have := h k (by simp)
    show (0 + 1) * c ≤ k.length + 1
    omega
  | [], _ :: _ :: _, _, h, _ => by simp at h
  | _ :: _, [], _, h, _ => by simp at h
  | p :: ps, k :: ks, c, hl, h => by
    have h1 := h k (by simp)
    have h2 := inter_low (by simpa using hl) fun x hx => h x (List.mem_cons_of_mem _ hx)
    show (ps.length + 1 + 1) * c ≤ (k ++ p :: inter ps ks).length + 1
    rw [Nat.add_mul (ps.length + 1), List.length_append, List.length_cons]
    omega
theorem inter_high : ∀ {ps : List MP} {ks : List (List MP)} {c : Nat}, ks.length = ps.length + 1 → (∀ k ∈ ks, k.length + 1 ≤ c) → (inter ps ks).length + 1 ≤ (ps.length + 1) * c
  | [], [], _, h, _ => by simp at h
  | [], [k], c, _, h => by
    have := h k (by simp)
    show k.length + 1 ≤ (0 + 1) * c
    omega
  | [], _ :: _ :: _, _, h, _ => by simp at h
  | _ :: _, [], _, h, _ => by simp at h
  | p :: ps, k :: ks, c, hl, h => by
    have h1 := h k (by simp)
    have h2 := inter_high (by simpa using hl) fun x hx => h x (List.mem_cons_of_mem _ hx)
    show (k ++ p :: inter ps ks).length + 1 ≤ (ps.length + 1 + 1) * c
    rw [Nat.add_mul (ps.length + 1), List.length_append, List.length_cons]
    omega
theorem wf_low {m : Nat} : ∀ {d lo hi : Nat} {t : MT}, Wf m d lo hi t → (lo + 1) * (m / 2 + 1) ^ d ≤ (flat d t).length + 1
  | 0, lo, hi, t, h => by
    have := h.2.1
    show (lo + 1) * 1 ≤ t.ps.length + 1
    omega
  | d + 1, lo, hi, t, h => by
    have h1 : (t.ps.length + 1) * (m / 2 + 1) ^ (d + 1) ≤ (inter t.ps (t.ks.map (flat d))).length + 1 := inter_low (by simpa using h.1) fun k hk => by
      obtain ⟨u, hu, rfl⟩ := List.mem_map.1 hk
      have := wf_low (h.2.2.2 u hu)
      rw [Nat.pow_succ, Nat.mul_comm]
      exact this
    exact Nat.le_trans (Nat.mul_le_mul_right _ (Nat.succ_le_succ h.2.1)) h1
theorem wf_high {m : Nat} : ∀ {d lo hi : Nat} {t : MT}, Wf m d lo hi t → (flat d t).length + 1 ≤ (hi + 1) * (m + 1) ^ d
  | 0, lo, hi, t, h => by
    have := h.2.2
    show t.ps.length + 1 ≤ (hi + 1) * 1
    omega
  | d + 1, lo, hi, t, h => by
    have h1 : (inter t.ps (t.ks.map (flat d))).length + 1 ≤ (t.ps.length + 1) * (m + 1) ^ (d + 1) := inter_high (by simpa using h.1) fun k hk => by
      obtain ⟨u, hu, rfl⟩ := List.mem_map.1 hk
      have := wf_high (h.2.2.2 u hu)
      rw [Nat.pow_succ, Nat.mul_comm]
      exact this
    exact Nat.le_trans h1 (Nat.mul_le_mul_right _ (Nat.succ_le_succ h.2.2.1))
/-- what the operations do to the list of keys; what is found in it -/
def hasK (ks : List Kp) (x : Kp) : Bool := ks.any fun y => decide (y.2 = x.2) && decide (cmpR y.1 x.1 = 0)
theorem hasK_iff {ks : List Kp} {x : Kp} : hasK ks x = true ↔ x ∈ ks := by
  unfold hasK
  rw [List.any_eq_true]
  constructor
  · rintro ⟨y, hy, h⟩
    rw [Bool.and_eq_true, decide_eq_true_eq, decide_eq_true_eq, cmpR_zero] at h
    exact (Prod.ext h.2 h.1 : y = x) ▸ hy
  · intro h
    exact ⟨x, h, by rw [Bool.and_eq_true, decide_eq_true_eq, decide_eq_true_eq, cmpR_zero]; exact ⟨rfl, rfl⟩⟩
theorem hasK_no {ks : List Kp} {x : Kp} (h : x ∉ ks) : hasK ks x = false := by
  cases hb : hasK ks x with
  | false => rfl
  | true => exact absurd (hasK_iff.1 hb) h
def putK (ks : List Kp) (x : Kp) : List Kp := if hasK ks x then ks else (ks.filter fun y => kLt y x) ++ x :: (ks.filter fun y => !kLt y x)
def delK (ks : List Kp) (x : Kp) : List Kp := ks.filter fun y => !(decide (y.2 = x.2) && decide (cmpR y.1 x.1 = 0))
def getK (ks : List Kp) (K : List Va) : List Int := (ks.filter fun y => decide (cmpR y.1 K = 0)).map Prod.snd
def preK (ks : List Kp) (K : List Va) : List Int := (ks.filter fun y => (decide (K.length ≤ y.1.length) && decide (cmpR (y.1.take K.length) K = 0))).map Prod.snd
def ranK (ks : List Kp) (K K2 : List Va) : List Int := (ks.filter fun y => (decide (0 ≤ cmpR y.1 K) && decide (cmpR y.1 K2 < 0))).map Prod.snd
end Go.Proofs.Ytdmbgimehepfaaa
