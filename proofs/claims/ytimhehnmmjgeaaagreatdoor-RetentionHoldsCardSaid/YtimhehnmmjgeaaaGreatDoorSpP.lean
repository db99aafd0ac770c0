/- The plain laws of spans: canonical lists, the reference's combination, the sweep. -/
import Derived.Test.YtimhehnmmjgeaaaGreatDoorPvd
set_option linter.unusedSimpArgs false
set_option linter.unusedVariables false
namespace Go.Proofs.YtimhehnmmjgeaaaGreatDoor

/-- a span: valid periods, ascending, with a gap between neighbors -/
def Can (l : List (Int × Int)) : Prop := (∀ p ∈ l, pvB p = true) ∧ l.Pairwise (fun p q => p.2 < q.1)
theorem can_nil : Can [] := ⟨by simp, List.Pairwise.nil⟩
theorem can_cons {p : Int × Int} {l : List (Int × Int)} : Can (p :: l) ↔ pvB p = true ∧ (∀ q ∈ l, p.2 < q.1) ∧ Can l := by
  unfold Can
  simp only [List.mem_cons, forall_eq_or_imp, List.pairwise_cons]
  constructor
  · rintro ⟨⟨a, b⟩, c, d⟩; exact ⟨a, c, b, d⟩
  · rintro ⟨a, c, b, d⟩; exact ⟨⟨a, b⟩, c, d⟩
theorem can_snoc {p : Int × Int} {l : List (Int × Int)} : Can (l ++ [p]) ↔ Can l ∧ pvB p = true ∧ (∀ q ∈ l, q.2 < p.1) := by
  unfold Can
  rw [List.pairwise_append]
  constructor
  · rintro ⟨a, b, c, d⟩
    exact ⟨⟨fun q hq => a q (by simp [hq]), b⟩, a p (by simp), fun q hq => d q hq p (by simp)⟩
  · rintro ⟨⟨a, b⟩, c, d⟩
    refine ⟨fun q hq => ?_, b, List.pairwise_singleton _ _, fun q hq r hr => ?_⟩
    · rcases List.mem_append.1 hq with h | h
      · exact a q h
      · simp at h; subst h; exact c
    · simp at hr; subst hr; exact d q hq

theorem can_head_le {p q : Int × Int} {l : List (Int × Int)} (h : Can (p :: l)) (hq : q ∈ p :: l) : p.1 ≤ q.1 := by
  obtain ⟨a, b, _⟩ := can_cons.1 h
  rcases List.mem_cons.1 hq with rfl | hq
  · omega
  · have := b q hq; have := pvB_iff.1 a; omega
theorem inP_self {p : Int × Int} (h : pvB p = true) : inP p p.1 = true := by
  have := pvB_iff.1 h; rw [inP_iff]; omega
theorem can_min {p : Int × Int} {l : List (Int × Int)} {t : Int} (h : Can (p :: l)) (ht : inL (p :: l) t = true) : p.1 ≤ t := by
  obtain ⟨q, hq, hi⟩ := inL_iff.1 ht
  have := can_head_le h hq; have := inP_iff.1 hi; omega
theorem can_first {p : Int × Int} {l : List (Int × Int)} (h : Can (p :: l)) : inL (p :: l) p.1 = true := by
  rw [inL_cons, inP_self (can_cons.1 h).1]; rfl
theorem can_gap {p : Int × Int} {l : List (Int × Int)} (h : Can (p :: l)) {t : Int} (ht : t ≤ p.2) : inL l t = false := by
  rw [Bool.eq_false_iff]
  intro hl
  obtain ⟨q, hq, hi⟩ := inL_iff.1 hl
  have := (can_cons.1 h).2.1 q hq; have := inP_iff.1 hi; omega
theorem can_end {p : Int × Int} {l : List (Int × Int)} (h : Can (p :: l)) : inL (p :: l) p.2 = false := by
  rw [inL_cons, can_gap h (Int.le_refl _), Bool.or_false, Bool.eq_false_iff]
  intro hp; have := inP_iff.1 hp; omega

theorem can_unique : ∀ {l l' : List (Int × Int)}, Can l → Can l' → (∀ t, inL l t = inL l' t) → l = l'
  | [], [], _, _, _ => rfl
  | [], q :: l', _, h', he => by have := he q.1; rw [can_first h'] at this; simp [inL_nil] at this
  | p :: l, [], h, _, he => by have := he p.1; rw [can_first h] at this; simp [inL_nil] at this
  | p :: l, q :: l', h, h', he => by
    have h1 : p.1 = q.1 := by
      have a := can_min h' (by rw [← he]; exact can_first h)
      have b := can_min h (by rw [he]; exact can_first h')
      omega
    have hp := pvB_iff.1 (can_cons.1 h).1
    have hq := pvB_iff.1 (can_cons.1 h').1
    have h2 : p.2 = q.2 := by
      rcases Int.lt_trichotomy p.2 q.2 with hlt | heq | hgt
      · have a := can_end h
        rw [he, inL_cons, inP_iff.2 (by omega)] at a; simp at a
      · exact heq
      · have a := can_end h'
        rw [← he, inL_cons, inP_iff.2 (by omega)] at a; simp at a
    have hpq : p = q := Prod.ext h1 h2
    subst hpq
    have ht : ∀ t, inL l t = inL l' t := by
      intro t
      by_cases hle : t ≤ p.2
      · rw [can_gap h hle, can_gap h' hle]
      · have := he t
        have hn : inP p t = false := by rw [Bool.eq_false_iff]; intro hp; have := inP_iff.1 hp; omega
        rwa [inL_cons, inL_cons, hn, Bool.false_or, Bool.false_or] at this
    rw [can_unique (can_cons.1 h).2.2 (can_cons.1 h').2.2 ht]

/-- out is the span of what f selects up to x -/
def Inv (f : Int → Bool) (out : List (Int × Int)) (x : Int) : Prop :=
  Can out ∧ (∀ p ∈ out, p.2 ≤ x) ∧ ∀ t, inL out t = (decide (0 ≤ t ∧ t < x) && f t)
theorem Inv.start (f : Int → Bool) : Inv f [] 0 := by
  refine ⟨can_nil, by simp, fun t => ?_⟩
  rw [inL_nil, decide_eq_false (by omega), Bool.false_and]
theorem Inv.skip {f : Int → Bool} {out : List (Int × Int)} {x y : Int} (h : Inv f out x) (hxy : x ≤ y) (hf : ∀ t, x ≤ t → t < y → f t = false) : Inv f out y := by
  obtain ⟨a, b, c⟩ := h
  refine ⟨a, fun p hp => Int.le_trans (b p hp) hxy, fun t => ?_⟩
  rw [c]
  by_cases h1 : 0 ≤ t ∧ t < x
  · rw [decide_eq_true h1, decide_eq_true (by omega)]
  · by_cases h2 : 0 ≤ t ∧ t < y
    · rw [decide_eq_false h1, decide_eq_true h2, hf t (by omega) h2.2]; rfl
    · rw [decide_eq_false h1, decide_eq_false h2]
theorem Inv.new {f : Int → Bool} {out : List (Int × Int)} {x y : Int} (h : Inv f out x) (h0 : 0 ≤ x) (hxy : x < y) (hF : y ≤ 1099511627776) (hf : ∀ t, x ≤ t → t < y → f t = true) (hl : ∀ p ∈ out, p.2 < x) : Inv f (out ++ [(x, y)]) y := by
  obtain ⟨a, b, c⟩ := h
  refine ⟨can_snoc.2 ⟨a, pvB_iff.2 ⟨h0, hxy, hF⟩, hl⟩, fun p hp => ?_, fun t => ?_⟩
  · rcases List.mem_append.1 hp with h | h
    · have := b p h; omega
    · simp at h; subst h; exact Int.le_refl _
  · rw [inL_append, c, inL_cons, inL_nil, Bool.or_false]
    by_cases h1 : 0 ≤ t ∧ t < x
    · have hn : inP (x, y) t = false := by rw [Bool.eq_false_iff]; intro hp; have := inP_iff.1 hp; simp at this; omega
      rw [decide_eq_true h1, decide_eq_true (by omega), hn, Bool.or_false]
    · by_cases h2 : 0 ≤ t ∧ t < y
      · rw [decide_eq_false h1, decide_eq_true h2, hf t (by omega) h2.2, inP_iff.2 (by simp; omega)]; rfl
      · have hn : inP (x, y) t = false := by rw [Bool.eq_false_iff]; intro hp; have := inP_iff.1 hp; simp at this; omega
        rw [decide_eq_false h1, decide_eq_false h2, hn]; rfl
theorem Inv.grow {f : Int → Bool} {o : List (Int × Int)} {a x y : Int} (h : Inv f (o ++ [(a, x)]) x) (hxy : x < y) (hF : y ≤ 1099511627776) (hf : ∀ t, x ≤ t → t < y → f t = true) : Inv f (o ++ [(a, y)]) y := by
  obtain ⟨hc, b, c⟩ := h
  obtain ⟨h1, h2, h3⟩ := can_snoc.1 hc
  have h2' := pvB_iff.1 h2
  simp only at h2' h3
  refine ⟨can_snoc.2 ⟨h1, pvB_iff.2 (by simp only; omega), h3⟩, fun p hp => ?_, fun t => ?_⟩
  · rcases List.mem_append.1 hp with h | h
    · have := h3 p h; omega
    · simp at h; subst h; exact Int.le_refl _
  · have ct := c t
    rw [inL_append, inL_cons, inL_nil, Bool.or_false] at ct ⊢
    by_cases hax : t < x
    · have e : inP (a, y) t = inP (a, x) t := bool_eq (by rw [inP_iff, inP_iff]; simp only; omega)
      rw [e, ct]
      by_cases h0 : 0 ≤ t
      · rw [decide_eq_true (by omega), decide_eq_true (by omega)]
      · rw [decide_eq_false (by omega), decide_eq_false (by omega)]
    · rw [decide_eq_false (by omega), Bool.false_and] at ct
      have e0 : inL o t = false := by cases h : inL o t <;> simp_all
      rw [e0, Bool.false_or]
      by_cases hy : t < y
      · rw [decide_eq_true (by omega), hf t (by omega) hy, inP_iff.2 (by simp only; omega)]; rfl
      · have hn : inP (a, y) t = false := by rw [Bool.eq_false_iff]; intro hp; have := inP_iff.1 hp; simp at this; omega
        rw [hn, decide_eq_false (by omega)]; rfl
theorem Inv.apart {f : Int → Bool} {o : List (Int × Int)} {p : Int × Int} {x : Int} (h : Inv f (o ++ [p]) x) (hp : p.2 ≠ x) : ∀ q ∈ o ++ [p], q.2 < x := by
  obtain ⟨hc, b, _⟩ := h
  obtain ⟨_, h2, h3⟩ := can_snoc.1 hc
  have hb := b p (by simp)
  have h2' := pvB_iff.1 h2
  intro q hq
  rcases List.mem_append.1 hq with h | h
  · have := h3 q h; omega
  · simp at h; subst h; omega
/-- two results for one selection are one -/
theorem Inv.eq {f g : Int → Bool} {a b : List (Int × Int)} (ha : Inv f a 1099511627776) (hb : Inv g b 1099511627776) (h : ∀ t, 0 ≤ t → t < 1099511627776 → f t = g t) : a = b := by
  refine can_unique ha.1 hb.1 fun t => ?_
  rw [ha.2.2, hb.2.2]
  by_cases h1 : 0 ≤ t ∧ t < 1099511627776
  · rw [h t h1.1 h1.2]
  · rw [decide_eq_false h1]; rfl

/-! the reference -/
def insF : List Int → Int → List Int
  | [], n => [n]
  | x :: l, n => if x < n then x :: insF l n else if n < x then n :: x :: l else x :: l
def ptsG : List Int → List (Int × Int) → List Int
  | acc, [] => acc
  | acc, p :: l => ptsG (if pvB p then insF (insF acc p.1) p.2 else acc) l
def ptsF (l : List (Int × Int)) : List Int := ptsG [] l
def pairsF : List Int → List (Int × Int)
  | a :: b :: r => (a, b) :: pairsF (b :: r)
  | _ => []
def slcF (l : List (Int × Int)) : List (Int × Int) := (pairsF (ptsF l)).filter fun p => inL l p.1
def joinF (l : List (Int × Int)) (p : Int × Int) : List (Int × Int) :=
  match l.getLast? with
  | none => l ++ [p]
  | some q => if p.1 ≤ q.2 then l.dropLast ++ [(q.1, if q.2 < p.2 then p.2 else q.2)] else l ++ [p]
def cmbF (f : Int → Bool) : List (Int × Int) → List (Int × Int) → List (Int × Int)
  | out, [] => out
  | out, p :: r => cmbF f (if f p.1 then joinF out p else out) r
def combF (k : Bool → Bool → Bool) (a b : List (Int × Int)) : List (Int × Int) :=
  cmbF (fun t => k (inL a t) (inL b t)) [] (pairsF (ptsF ((0, 1099511627776) :: (a ++ b))))

theorem mem_insF {n z : Int} : ∀ {l : List Int}, z ∈ insF l n ↔ z = n ∨ z ∈ l
  | [] => by simp [insF]
  | x :: l => by
    simp only [insF]
    split
    · rw [List.mem_cons, mem_insF, List.mem_cons]
      constructor
      · rintro (h | h | h) <;> simp [h]
      · rintro (h | h | h) <;> simp [h]
    · split
      · simp [List.mem_cons]
      · have : x = n := by omega
        subst this
        simp only [List.mem_cons]
        constructor
        · rintro (h | h) <;> simp [h]
        · rintro (h | h | h) <;> simp [h]
theorem sorted_insF {n : Int} : ∀ {l : List Int}, l.Pairwise (· < ·) → (insF l n).Pairwise (· < ·)
  | [], _ => by simp [insF]
  | x :: l, h => by
    obtain ⟨h1, h2⟩ := List.pairwise_cons.1 h
    simp only [insF]
    split
    · rw [List.pairwise_cons]
      refine ⟨fun z hz => ?_, sorted_insF h2⟩
      rcases mem_insF.1 hz with rfl | hz
      · assumption
      · exact h1 z hz
    · split
      · rw [List.pairwise_cons]
        refine ⟨fun z hz => ?_, h⟩
        rcases List.mem_cons.1 hz with rfl | hz
        · assumption
        · have := h1 z hz; omega
      · exact h
theorem mem_ptsG {z : Int} : ∀ {l : List (Int × Int)} {acc : List Int}, z ∈ ptsG acc l ↔ z ∈ acc ∨ ∃ p ∈ l, pvB p = true ∧ (z = p.1 ∨ z = p.2)
  | [], acc => by simp [ptsG]
  | p :: l, acc => by
    rw [ptsG, mem_ptsG]
    by_cases h : pvB p = true
    · rw [if_pos h, mem_insF, mem_insF]
      constructor
      · rintro ((rfl | rfl | h1) | ⟨q, hq, h2⟩)
        · exact .inr ⟨p, by simp, h, .inr rfl⟩
        · exact .inr ⟨p, by simp, h, .inl rfl⟩
        · exact .inl h1
        · exact .inr ⟨q, by simp [hq], h2⟩
      · rintro (h1 | ⟨q, hq, h2, h3⟩)
        · exact .inl (.inr (.inr h1))
        · rcases List.mem_cons.1 hq with rfl | hq
          · rcases h3 with rfl | rfl <;> simp
          · exact .inr ⟨q, hq, h2, h3⟩
    · rw [if_neg h]
      constructor
      · rintro (h1 | ⟨q, hq, h2⟩)
        · exact .inl h1
        · exact .inr ⟨q, by simp [hq], h2⟩
      · rintro (h1 | ⟨q, hq, h2, h3⟩)
        · exact .inl h1
        · rcases List.mem_cons.1 hq with rfl | hq
          · exact absurd h2 h
          · exact .inr ⟨q, hq, h2, h3⟩
theorem sorted_ptsG : ∀ {l : List (Int × Int)} {acc : List Int}, acc.Pairwise (· < ·) → (ptsG acc l).Pairwise (· < ·)
  | [], acc, h => h
  | p :: l, acc, h => by
    rw [ptsG]
    apply sorted_ptsG
    split
    · exact sorted_insF (sorted_insF h)
    · exact h
theorem mem_ptsF {z : Int} {l : List (Int × Int)} : z ∈ ptsF l ↔ ∃ p ∈ l, pvB p = true ∧ (z = p.1 ∨ z = p.2) := by simp [ptsF, mem_ptsG]
theorem sorted_ptsF (l : List (Int × Int)) : (ptsF l).Pairwise (· < ·) := sorted_ptsG List.Pairwise.nil
/-- ascending lists with the same members are one -/
theorem asc_unique : ∀ {l l' : List Int}, l.Pairwise (· < ·) → l'.Pairwise (· < ·) → (∀ z, z ∈ l ↔ z ∈ l') → l = l'
  | [], [], _, _, _ => rfl
  | [], q :: l', _, _, he => by have := (he q).2 (by simp); simp at this
  | p :: l, [], _, _, he => by have := (he p).1 (by simp); simp at this
  | p :: l, q :: l', h, h', he => by
    obtain ⟨a, b⟩ := List.pairwise_cons.1 h
    obtain ⟨a', b'⟩ := List.pairwise_cons.1 h'
    have hpq : p = q := by
      have h1 := (he p).1 (by simp)
      have h2 := (he q).2 (by simp)
      rcases List.mem_cons.1 h1 with h1 | h1
      · exact h1
      · rcases List.mem_cons.1 h2 with h2 | h2
        · exact h2.symm
        · have := a q h2; have := a' p h1; omega
    subst hpq
    rw [asc_unique b b' fun z => ?_]
    constructor
    · intro hz
      rcases List.mem_cons.1 ((he z).1 (by simp [hz])) with rfl | h
      · have := a z hz; omega
      · exact h
    · intro hz
      rcases List.mem_cons.1 ((he z).2 (by simp [hz])) with rfl | h
      · have := a' z hz; omega
      · exact h

/-- between two bounds nothing turns -/
theorem inL_const {l : List (Int × Int)} {x y t : Int} (hx : x ≤ t) (ht : t < y) (h : ∀ p ∈ l, pvB p = true → ¬ (x < p.1 ∧ p.1 < y) ∧ ¬ (x < p.2 ∧ p.2 < y)) : inL l t = inL l x := by
  refine bool_eq ?_
  rw [inL_iff, inL_iff]
  constructor
  · rintro ⟨p, hp, hi⟩
    have hi' := inP_iff.1 hi
    have := h p hp (pvB_iff.2 (by omega))
    exact ⟨p, hp, inP_iff.2 (by omega)⟩
  · rintro ⟨p, hp, hi⟩
    have hi' := inP_iff.1 hi
    have := h p hp (pvB_iff.2 (by omega))
    exact ⟨p, hp, inP_iff.2 (by omega)⟩

theorem joinF_inv {f : Int → Bool} {out : List (Int × Int)} {x y : Int} (h : Inv f out x) (h0 : 0 ≤ x) (hxy : x < y) (hF : y ≤ 1099511627776) (hf : ∀ t, x ≤ t → t < y → f t = true) : Inv f (joinF out (x, y)) y := by
  rcases List.eq_nil_or_concat out with rfl | ⟨o, p, rfl⟩
  · exact h.new h0 hxy hF hf (by simp)
  · rw [List.concat_eq_append] at h ⊢
    have hb := h.2.1 p (by simp)
    simp only [joinF, List.getLast?_append, List.getLast?_singleton, Option.some_or, List.dropLast_concat]
    split
    · have e : p.2 = x := by omega
      obtain ⟨a, z⟩ := p
      simp only at e
      subst e
      rw [if_pos hxy]
      exact h.grow hxy hF hf
    · exact h.new h0 hxy hF hf (h.apart (by omega))

theorem cmbF_inv {f : Int → Bool} : ∀ {r : List Int} {x : Int} {out : List (Int × Int)}, Inv f out x → 0 ≤ x → (x :: r).Pairwise (· < ·) → (x :: r).getLast? = some 1099511627776 → (∀ y z t, x ≤ y → (∀ b ∈ x :: r, ¬ (y < b ∧ b < z)) → y ≤ t → t < z → f t = f y) → Inv f (cmbF f out (pairsF (x :: r))) 1099511627776
  | [], x, out, h, _, _, hl, _ => by
    simp at hl; subst hl; exact h
  | y :: r, x, out, h, h0, hs, hl, hf => by
    obtain ⟨a, b⟩ := List.pairwise_cons.1 hs
    have hxy : x < y := a y (by simp)
    have hyF : y ≤ 1099511627776 := by
      rw [List.getLast?_cons_cons] at hl
      have hm := List.mem_of_getLast? hl
      rcases List.mem_cons.1 hm with hm | hm
      · omega
      · have := (List.pairwise_cons.1 b).1 _ hm; omega
    have hc : ∀ t, x ≤ t → t < y → f t = f x := fun t h1 h2 => hf x y t (Int.le_refl _) (fun z hz => by
      rcases List.mem_cons.1 hz with rfl | hz
      · omega
      · rcases List.mem_cons.1 hz with rfl | hz
        · omega
        · have := (List.pairwise_cons.1 b).1 _ hz; omega) h1 h2
    simp only [pairsF, cmbF]
    refine cmbF_inv ?_ (by omega) b (by rw [← hl, List.getLast?_cons_cons]) fun y' z t h1 h2 h3 h4 => hf y' z t (by omega) (fun w hw => ?_) h3 h4
    · cases hfx : f x with
      | true => rw [if_pos rfl]; exact joinF_inv h h0 hxy hyF fun t h1 h2 => by rw [hc t h1 h2, hfx]
      | false => rw [if_neg (by simp)]; exact h.skip (Int.le_of_lt hxy) fun t h1 h2 => by rw [hc t h1 h2, hfx]
    · rcases List.mem_cons.1 hw with rfl | hw
      · omega
      · exact h2 w hw

theorem asc_first {l : List Int} {x : Int} (h : l.Pairwise (· < ·)) (hx : x ∈ l) (hm : ∀ z ∈ l, x ≤ z) : ∃ r, l = x :: r := by
  cases l with
  | nil => simp at hx
  | cons y r =>
    rcases List.mem_cons.1 hx with rfl | hx
    · exact ⟨r, rfl⟩
    · have := (List.pairwise_cons.1 h).1 x hx; have := hm y (by simp); omega
theorem asc_last {l : List Int} {x : Int} (h : l.Pairwise (· < ·)) (hx : x ∈ l) (hm : ∀ z ∈ l, z ≤ x) : l.getLast? = some x := by
  rcases List.eq_nil_or_concat l with rfl | ⟨o, p, rfl⟩
  · simp at hx
  · rw [List.concat_eq_append] at *
    simp only [List.getLast?_append, List.getLast?_singleton, Option.some_or, Option.some.injEq]
    have h1 := hm p (by simp)
    rcases List.mem_append.1 hx with h2 | h2
    · have := (List.pairwise_append.1 h).2.2 x h2 p (by simp); omega
    · simp at h2; exact h2.symm

theorem combF_inv (k : Bool → Bool → Bool) (a b : List (Int × Int)) : Inv (fun t => k (inL a t) (inL b t)) (combF k a b) 1099511627776 := by
  have hs := sorted_ptsF ((0, 1099511627776) :: (a ++ b))
  have h0 : (0 : Int) ∈ ptsF ((0, 1099511627776) :: (a ++ b)) := mem_ptsF.2 ⟨(0, 1099511627776), by simp, by decide, .inl rfl⟩
  have h1 : (1099511627776 : Int) ∈ ptsF ((0, 1099511627776) :: (a ++ b)) := mem_ptsF.2 ⟨(0, 1099511627776), by simp, by decide, .inr rfl⟩
  have hr : ∀ z ∈ ptsF ((0, 1099511627776) :: (a ++ b)), 0 ≤ z ∧ z ≤ 1099511627776 := by
    intro z hz
    obtain ⟨p, _, hv, h⟩ := mem_ptsF.1 hz
    have := pvB_iff.1 hv
    rcases h with rfl | rfl <;> omega
  obtain ⟨r, hr0⟩ := asc_first hs h0 fun z hz => (hr z hz).1
  have hl := asc_last hs h1 fun z hz => (hr z hz).2
  unfold combF
  rw [hr0] at hs hl ⊢
  refine cmbF_inv (Inv.start _) (Int.le_refl _) hs hl fun y z t h2 h3 h4 h5 => ?_
  have key : ∀ l : List (Int × Int), (∀ p ∈ l, p ∈ a ++ b) → inL l t = inL l y := fun l hl => inL_const h4 h5 fun p hp hv => by
    have m1 : p.1 ∈ ptsF ((0, 1099511627776) :: (a ++ b)) := mem_ptsF.2 ⟨p, by simp only [List.mem_cons]; exact .inr (hl p hp), hv, .inl rfl⟩
    have m2 : p.2 ∈ ptsF ((0, 1099511627776) :: (a ++ b)) := mem_ptsF.2 ⟨p, by simp only [List.mem_cons]; exact .inr (hl p hp), hv, .inr rfl⟩
    rw [hr0] at m1 m2
    exact ⟨h3 _ m1, h3 _ m2⟩
  rw [key a (fun p hp => by simp [hp]), key b (fun p hp => by simp [hp])]

/-! the sweep -/
/-- the edges of one list -/
def edA (l : List (Int × Int)) : List (Int × Int × Int) := (l.filter pvB).flatMap fun p => [(p.1, 1, 0), (p.2, -1, 0)]
def edB (l : List (Int × Int)) : List (Int × Int × Int) := (l.filter pvB).flatMap fun p => [(p.1, 0, 1), (p.2, 0, -1)]
def sumA (l : List (Int × Int × Int)) : Int := (l.map (·.2.1)).sum
def sumB (l : List (Int × Int × Int)) : Int := (l.map (·.2.2)).sum
def upTo (t : Int) (l : List (Int × Int × Int)) : List (Int × Int × Int) := l.filter fun e => decide (e.1 ≤ t)
/-- what the sweep may know of an edge -/
def EdOk (e : Int × Int × Int) : Prop := 0 ≤ e.1 ∧ e.1 ≤ 1099511627776 ∧ -1 ≤ e.2.1 ∧ e.2.1 ≤ 1 ∧ -1 ≤ e.2.2 ∧ e.2.2 ≤ 1

theorem edA_cons (p : Int × Int) (l : List (Int × Int)) : edA (p :: l) = (if pvB p then [(p.1, 1, 0), (p.2, -1, 0)] else []) ++ edA l := by
  unfold edA; rw [List.filter_cons]; split <;> simp
theorem edB_cons (p : Int × Int) (l : List (Int × Int)) : edB (p :: l) = (if pvB p then [(p.1, 0, 1), (p.2, 0, -1)] else []) ++ edB l := by
  unfold edB; rw [List.filter_cons]; split <;> simp
theorem edA_ok : ∀ (l : List (Int × Int)), ∀ e ∈ edA l, EdOk e
  | [], e, h => by simp [edA] at h
  | p :: l, e, h => by
    rw [edA_cons] at h
    rcases List.mem_append.1 h with h | h
    · split at h
      · next hv =>
        have := pvB_iff.1 hv
        simp at h
        rcases h with rfl | rfl <;> (unfold EdOk; simp only; omega)
      · simp at h
    · exact edA_ok l e h
theorem edB_ok : ∀ (l : List (Int × Int)), ∀ e ∈ edB l, EdOk e
  | [], e, h => by simp [edB] at h
  | p :: l, e, h => by
    rw [edB_cons] at h
    rcases List.mem_append.1 h with h | h
    · split at h
      · next hv =>
        have := pvB_iff.1 hv
        simp at h
        rcases h with rfl | rfl <;> (unfold EdOk; simp only; omega)
      · simp at h
    · exact edB_ok l e h
theorem edA_length : ∀ (l : List (Int × Int)), (edA l).length ≤ 2 * l.length
  | [] => by simp [edA]
  | p :: l => by have := edA_length l; rw [edA_cons]; split <;> simp <;> omega
theorem edB_length : ∀ (l : List (Int × Int)), (edB l).length ≤ 2 * l.length
  | [] => by simp [edB]
  | p :: l => by have := edB_length l; rw [edB_cons]; split <;> simp <;> omega
theorem sumA_append (a b : List (Int × Int × Int)) : sumA (a ++ b) = sumA a + sumA b := by simp [sumA]
theorem sumB_append (a b : List (Int × Int × Int)) : sumB (a ++ b) = sumB a + sumB b := by simp [sumB]
theorem upTo_append (t : Int) (a b : List (Int × Int × Int)) : upTo t (a ++ b) = upTo t a ++ upTo t b := by simp [upTo]
theorem sumA_edA (t : Int) : ∀ (l : List (Int × Int)), 0 ≤ sumA (upTo t (edA l)) ∧ (0 < sumA (upTo t (edA l)) ↔ inL l t = true) ∧ sumB (upTo t (edA l)) = 0
  | [] => by simp [edA, upTo, sumA, sumB, inL]
  | p :: l => by
    obtain ⟨i1, i2, i3⟩ := sumA_edA t l
    rw [edA_cons, upTo_append, sumA_append, sumB_append, i3, inL_cons, Bool.or_eq_true, ← i2, inP_iff]
    by_cases hv : pvB p = true
    · have hv' := pvB_iff.1 hv
      rw [if_pos hv]
      generalize sumA (upTo t (edA l)) = q at *
      by_cases h1 : p.1 ≤ t <;> by_cases h2 : p.2 ≤ t <;> simp [upTo, sumA, sumB, h1, h2] <;> omega
    · rw [if_neg hv]
      have hn : ¬ (0 ≤ p.1 ∧ p.1 ≤ t ∧ t < p.2 ∧ p.2 ≤ 1099511627776) := fun h => hv (pvB_iff.2 (by omega))
      have e1 : sumA (upTo t []) = 0 := rfl
      have e2 : sumB (upTo t []) = 0 := rfl
      rw [e1, e2]
      refine ⟨by omega, by simp only [hn, false_or, Int.zero_add], by omega⟩
theorem sumB_edB (t : Int) : ∀ (l : List (Int × Int)), 0 ≤ sumB (upTo t (edB l)) ∧ (0 < sumB (upTo t (edB l)) ↔ inL l t = true) ∧ sumA (upTo t (edB l)) = 0
  | [] => by simp [edB, upTo, sumA, sumB, inL]
  | p :: l => by
    obtain ⟨i1, i2, i3⟩ := sumB_edB t l
    rw [edB_cons, upTo_append, sumA_append, sumB_append, i3, inL_cons, Bool.or_eq_true, ← i2, inP_iff]
    by_cases hv : pvB p = true
    · have hv' := pvB_iff.1 hv
      rw [if_pos hv]
      generalize sumB (upTo t (edB l)) = q at *
      by_cases h1 : p.1 ≤ t <;> by_cases h2 : p.2 ≤ t <;> simp [upTo, sumA, sumB, h1, h2] <;> omega
    · rw [if_neg hv]
      have hn : ¬ (0 ≤ p.1 ∧ p.1 ≤ t ∧ t < p.2 ∧ p.2 ≤ 1099511627776) := fun h => hv (pvB_iff.2 (by omega))
      have e1 : sumA (upTo t []) = 0 := rfl
      have e2 : sumB (upTo t []) = 0 := rfl
      rw [e1, e2]
      refine ⟨by omega, by simp only [hn, false_or, Int.zero_add], by omega⟩
theorem sum_perm : ∀ {a b : List Int}, a.Perm b → a.sum = b.sum := by
  intro a b h
  induction h with
  | nil => rfl
  | cons x _ ih => simp [ih]
  | swap x y l => simp; omega
  | trans _ _ h1 h2 => exact h1.trans h2
theorem sumA_perm {a b : List (Int × Int × Int)} (t : Int) (h : a.Perm b) : sumA (upTo t a) = sumA (upTo t b) := sum_perm ((h.filter _).map _)
theorem sumB_perm {a b : List (Int × Int × Int)} (t : Int) (h : a.Perm b) : sumB (upTo t a) = sumB (upTo t b) := sum_perm ((h.filter _).map _)

/-- how an edge list stands for two lists -/
def EdFor (a b : List (Int × Int)) (L : List (Int × Int × Int)) : Prop := L.Perm (edA a ++ edB b) ∧ L.Pairwise (fun x y => x.1 ≤ y.1)
theorem EdFor.ok {a b : List (Int × Int)} {L : List (Int × Int × Int)} (h : EdFor a b L) : ∀ e ∈ L, EdOk e := fun e he => by
  rcases List.mem_append.1 (h.1.mem_iff.1 he) with h | h
  · exact edA_ok a e h
  · exact edB_ok b e h
theorem EdFor.length {a b : List (Int × Int)} {L : List (Int × Int × Int)} (h : EdFor a b L) : L.length ≤ 2 * (a.length + b.length) := by
  have := h.1.length_eq; have := edA_length a; have := edB_length b; simp at *; omega
theorem EdFor.sum {a b : List (Int × Int)} {L : List (Int × Int × Int)} (h : EdFor a b L) {i : Nat} {t : Int} (h1 : ∀ e ∈ L.take i, e.1 ≤ t) (h2 : ∀ e ∈ L.drop i, t < e.1) :
    inL a t = decide (0 < sumA (L.take i)) ∧ inL b t = decide (0 < sumB (L.take i)) := by
  have hu : upTo t L = L.take i := by
    have e : L = L.take i ++ L.drop i := (List.take_append_drop i L).symm
    have e1 : upTo t (L.take i) = L.take i := by unfold upTo; rw [List.filter_eq_self]; intro e he; simpa using h1 e he
    have e2 : upTo t (L.drop i) = [] := by unfold upTo; rw [List.filter_eq_nil_iff]; intro e he; have := h2 e he; simp; omega
    have e3 : upTo t L = upTo t (L.take i ++ L.drop i) := by rw [← e]
    rw [e3, upTo_append, e1, e2, List.append_nil]
  have hA := sumA_perm t h.1
  have hB := sumB_perm t h.1
  rw [hu, upTo_append] at hA hB
  rw [sumA_append] at hA
  rw [sumB_append] at hB
  obtain ⟨a1, a2, a3⟩ := sumA_edA t a
  obtain ⟨b1, b2, b3⟩ := sumB_edB t b
  rw [b3] at hA
  rw [a3] at hB
  constructor
  · refine bool_eq ?_
    rw [decide_eq_true_eq, hA, ← a2]; omega
  · refine bool_eq ?_
    rw [decide_eq_true_eq, hB, ← b2]; omega
theorem sumA_bound : ∀ {L : List (Int × Int × Int)}, (∀ e ∈ L, EdOk e) → -(L.length : Int) ≤ sumA L ∧ sumA L ≤ L.length
  | [], _ => by simp [sumA]
  | e :: L, h => by
    have i := sumA_bound (L := L) fun e he => h e (by simp [he])
    have he := h e (by simp)
    unfold EdOk at he
    have : sumA (e :: L) = e.2.1 + sumA L := by simp [sumA]
    rw [this, List.length_cons]
    omega
theorem sumB_bound : ∀ {L : List (Int × Int × Int)}, (∀ e ∈ L, EdOk e) → -(L.length : Int) ≤ sumB L ∧ sumB L ≤ L.length
  | [], _ => by simp [sumB]
  | e :: L, h => by
    have i := sumB_bound (L := L) fun e he => h e (by simp [he])
    have he := h e (by simp)
    unfold EdOk at he
    have : sumB (e :: L) = e.2.2 + sumB L := by simp [sumB]
    rw [this, List.length_cons]
    omega
theorem sumA_take_succ {L : List (Int × Int × Int)} {i : Nat} (h : i < L.length) : sumA (L.take (i + 1)) = sumA (L.take i) + L[i].2.1 := by
  rw [List.take_succ_eq_append_getElem h, sumA_append]; simp [sumA]
theorem sumB_take_succ {L : List (Int × Int × Int)} {i : Nat} (h : i < L.length) : sumB (L.take (i + 1)) = sumB (L.take i) + L[i].2.2 := by
  rw [List.take_succ_eq_append_getElem h, sumB_append]; simp [sumB]

/-- the place of the sweep: the edges before i lie below x (or at it, while y says so), those from i on not below x -/
def At (L : List (Int × Int × Int)) (i : Nat) (x : Int) : Prop := i ≤ L.length ∧ (∀ e ∈ L.take i, e.1 ≤ x) ∧ ∀ e ∈ L.drop i, x ≤ e.1
theorem At.start {L : List (Int × Int × Int)} (h : ∀ e ∈ L, EdOk e) : At L 0 0 := ⟨Nat.zero_le _, by simp, fun e he => (h e (by simpa using he)).1⟩
theorem At.next {L : List (Int × Int × Int)} {i : Nat} {x : Int} (h : At L i x) (hi : i < L.length) (he : L[i].1 = x) : At L (i + 1) x := by
  obtain ⟨_, h2, h3⟩ := h
  refine ⟨hi, fun e hm => ?_, fun e hm => h3 e ?_⟩
  · rw [List.take_succ_eq_append_getElem hi] at hm
    rcases List.mem_append.1 hm with h | h
    · exact h2 e h
    · simp at h; subst h; omega
  · rw [List.drop_eq_getElem_cons hi]; exact List.mem_cons_of_mem _ hm
theorem At.ge {L : List (Int × Int × Int)} {i : Nat} {x : Int} (h : At L i x) (hi : i < L.length) : x ≤ L[i].1 := h.2.2 _ (by rw [List.drop_eq_getElem_cons hi]; exact List.mem_cons_self)
/-- behind the inner loop: the next edge -/
theorem At.go {a b : List (Int × Int)} {L : List (Int × Int × Int)} (hL : EdFor a b L) {i : Nat} {x : Int} (h : At L i x) (hi : i < L.length) (hne : L[i].1 ≠ x) :
    x < L[i].1 ∧ L[i].1 ≤ 1099511627776 ∧ At L i L[i].1 ∧ ∀ t, x ≤ t → t < L[i].1 → inL a t = decide (0 < sumA (L.take i)) ∧ inL b t = decide (0 < sumB (L.take i)) := by
  have hge := h.ge hi
  have hle : ∀ e ∈ L.drop i, L[i].1 ≤ e.1 := by
    intro e he
    rw [List.drop_eq_getElem_cons hi] at he
    rcases List.mem_cons.1 he with rfl | he
    · exact Int.le_refl _
    · have hp := hL.2.drop (i := i)
      rw [List.drop_eq_getElem_cons hi, List.pairwise_cons] at hp
      exact hp.1 e he
  have hok := hL.ok L[i] (List.getElem_mem hi)
  unfold EdOk at hok
  refine ⟨by omega, by omega, ⟨h.1, fun e he => Int.le_trans (h.2.1 e he) hge, hle⟩, fun t h1 h2 => hL.sum (fun e he => Int.le_trans (h.2.1 e he) h1) fun e he => Int.lt_of_lt_of_le h2 (hle e he)⟩
theorem At.fin {a b : List (Int × Int)} {L : List (Int × Int × Int)} (hL : EdFor a b L) {i : Nat} {x : Int} (h : At L i x) (hi : ¬ i < L.length) (hx : x ≤ 1099511627776) :
    At L i 1099511627776 ∧ ∀ t, x ≤ t → t < 1099511627776 → inL a t = decide (0 < sumA (L.take i)) ∧ inL b t = decide (0 < sumB (L.take i)) := by
  have hd : L.drop i = [] := List.drop_eq_nil_of_le (by omega)
  exact ⟨⟨h.1, fun e he => Int.le_trans (h.2.1 e he) hx, by simp [hd]⟩, fun t h1 h2 => hL.sum (fun e he => Int.le_trans (h.2.1 e he) h1) (by simp [hd])⟩

/-- a canonical list is short -/
theorem can_length : ∀ {l : List (Int × Int)} {lo : Int}, Can l → (∀ p ∈ l, lo ≤ p.1) → lo ≤ 1099511627776 → 2 * (l.length : Int) ≤ 1099511627776 - lo + 1
  | [], lo, _, _, h => by simp; omega
  | p :: l, lo, h, hlo, _ => by
    obtain ⟨h1, h2, h3⟩ := can_cons.1 h
    have hv := pvB_iff.1 h1
    have hp := hlo p (by simp)
    rcases Nat.eq_zero_or_pos l.length with h0 | h0
    · rw [List.length_cons, h0]; omega
    · obtain ⟨q, r, rfl⟩ : ∃ q r, l = q :: r := by cases l with | nil => simp at h0 | cons q r => exact ⟨q, r, rfl⟩
      have hq := pvB_iff.1 (can_cons.1 h3).1
      have h2q := h2 q (by simp)
      have := can_length (lo := p.2 + 1) h3 (fun q hq => by have := h2 q hq; omega) (by omega)
      rw [List.length_cons]
      omega
theorem can_short {l : List (Int × Int)} (h : Can l) : l.length ≤ 549755813888 := by
  have := can_length h (lo := 0) (fun p hp => (pvB_iff.1 (h.1 p hp)).1) (by omega); omega
theorem Inv.short {f : Int → Bool} {l : List (Int × Int)} {x : Int} (h : Inv f l x) : l.length ≤ 549755813888 := can_short h.1

end Go.Proofs.YtimhehnmmjgeaaaGreatDoor
