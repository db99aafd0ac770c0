/- Where two beliefs differ: the slices of the program and those of the reference stand for the same instants (plain). -/
import Derived.Test.YtpifjhoelnacgaaGreatSpR
import Derived.Test.YtpifjhoelnacgaaGreatCfP
set_option linter.unusedSimpArgs false
set_option linter.unusedVariables false
namespace Go.Proofs.YtpifjhoelnacgaaGreat

section
variable {α κ : Type} [DecidableEq κ] (v : α → Int × Int) (ky : α → κ) (was is : α → Bool)
/-- how often a key counts in the one list more than in the other -/
def balK : List α → Int → κ → Int
  | [], _, _ => 0
  | p :: l, x, K => (if inP (v p) x = true ∧ ky p = K then (if was p then 1 else 0) - (if is p then 1 else 0) else 0) + balK l x K
theorem balK_const {x y : Int} : ∀ {l : List α}, (∀ p ∈ l, (was p != is p) = true → inP (v p) x = inP (v p) y) → ∀ K, balK v ky was is l x K = balK v ky was is l y K
  | [], _, _ => rfl
  | p :: l, h, K => by
    have ih := balK_const (l := l) (fun q hq => h q (by simp [hq])) K
    rw [balK, balK, ih]
    congr 1
    have hp := h p (by simp)
    rcases e1 : was p with _ | _ <;> rcases e2 : is p with _ | _
    · simp
    · rw [hp (by simp [e1, e2])]
    · rw [hp (by simp [e1, e2])]
    · simp
theorem balK_count (x : Int) (K : κ) : ∀ (l : List α), (((((l.filter was).filter fun p => inP (v p) x).map ky).count K : Nat) : Int) - ((((l.filter is).filter fun p => inP (v p) x).map ky).count K : Nat) = balK v ky was is l x K
  | [] => rfl
  | p :: l => by
    have ih := balK_count x K l
    rw [balK, ← ih]
    rw [List.filter_cons, List.filter_cons]
    rcases e1 : was p with _ | _ <;> rcases e2 : is p with _ | _ <;> rcases e3 : inP (v p) x with _ | _ <;> by_cases e4 : ky p = K
    all_goals simp [e1, e2, e3, e4, List.filter_cons, List.count_cons]
    all_goals (try omega)
/-- the two lists of keys agree at x -/
theorem perm_bal (l : List α) (x : Int) : ((((l.filter was).filter fun p => inP (v p) x).map ky).Perm (((l.filter is).filter fun p => inP (v p) x).map ky)) ↔ ∀ K, balK v ky was is l x K = 0 := by
  rw [List.perm_iff_count]
  constructor
  · intro h K
    have := balK_count v ky was is x K l
    rw [h K] at this
    omega
  · intro h K
    have := balK_count v ky was is x K l
    rw [h K] at this
    omega
/-- the periods of those that count in one list alone -/
def bndA (l : List α) : List (Int × Int) := (l.filter fun p => was p != is p).map v
/-- D tells where the lists differ -/
def Dif (l : List α) (D : Int → Bool) : Prop := ∀ x, D x = false ↔ ∀ K, balK v ky was is l x K = 0
variable {v ky was is}
theorem Dif.const {l : List α} {D : Int → Bool} (h : Dif v ky was is l D) {x y : Int} (hc : ∀ p ∈ bndA v was is l, inP p x = inP p y) : D x = D y := by
  have hb : ∀ K, balK v ky was is l x K = balK v ky was is l y K := balK_const v ky was is fun p hp hd => hc _ (List.mem_map.2 ⟨p, List.mem_filter.2 ⟨hp, hd⟩, rfl⟩)
  have e : D x = false ↔ D y = false := by rw [h x, h y]; exact forall_congr' fun K => by rw [hb K]
  rcases hx : D x with _ | _ <;> rcases hy : D y with _ | _
  · rfl
  · rw [hx, hy] at e; simp at e
  · rw [hx, hy] at e; simp at e
  · rfl
theorem Dif.out {l : List α} {D : Int → Bool} (h : Dif v ky was is l D) {x : Int} (hc : inL (bndA v was is l) x = false) : D x = false := by
  rw [h x]
  intro K
  have hx : ∀ p ∈ l, (was p != is p) = true → inP (v p) x = false := fun p hp hd => by
    rw [Bool.eq_false_iff]; intro e
    rw [Bool.eq_false_iff] at hc
    exact hc (inL_iff.2 ⟨_, List.mem_map.2 ⟨p, List.mem_filter.2 ⟨hp, hd⟩, rfl⟩, e⟩)
  have : ∀ {l : List α}, (∀ p ∈ l, (was p != is p) = true → inP (v p) x = false) → balK v ky was is l x K = 0 := by
    intro l
    induction l with
    | nil => intro _; rfl
    | cons p l ih =>
      intro hl
      rw [balK, ih fun q hq => hl q (by simp [hq])]
      have hp := hl p (by simp)
      rcases e1 : was p with _ | _ <;> rcases e2 : is p with _ | _
      · simp
      · rw [hp (by simp [e1, e2])]; simp
      · rw [hp (by simp [e1, e2])]; simp
      · simp
  exact this hx
theorem inP_slc {l : List (Int × Int)} {p : Int × Int} (h : p ∈ slcF l) {x : Int} (hx : inP p x = true) : ∀ q ∈ l, inP q x = inP q p.1 := by
  intro q hq
  obtain ⟨h1, _, h3⟩ := slc_mem h
  have hv := pvB_iff.1 h1
  have hi := inP_iff.1 hx
  refine bool_eq ?_
  rw [inP_iff, inP_iff]
  constructor
  · intro k
    have := h3 q hq (pvB_iff.2 (by omega))
    omega
  · intro k
    have := h3 q hq (pvB_iff.2 (by omega))
    omega
/-- the program's slices -/
theorem slices_in (t : ByteArray) {l : List α} {D : Int → Bool} (h : Dif v ky was is l D) (s : List UInt8) (x : Int) :
    inT (((slcF (bndA v was is l)).filter fun p => D p.1).map fun p => ((t, p) : Acc)) s x = (decide (t.data.toList = s) && D x) := by
  refine bool_eq ?_
  simp only [inT, List.any_eq_true, Bool.and_eq_true, decide_eq_true_eq]
  constructor
  · rintro ⟨a, ha, h1, h2⟩
    obtain ⟨p, hp, rfl⟩ := List.mem_map.1 ha
    obtain ⟨hp, hd⟩ := List.mem_filter.1 hp
    refine ⟨h1, ?_⟩
    rw [h.const (fun q hq => inP_slc hp h2 q hq)]; exact hd
  · rintro ⟨h1, h2⟩
    have hin : inL (bndA v was is l) x = true := by
      rcases e : inL (bndA v was is l) x with _ | _
      · rw [h.out e] at h2; cases h2
      · rfl
    rw [← slc_in] at hin
    obtain ⟨p, hp, hx⟩ := inL_iff.1 hin
    refine ⟨(t, p), List.mem_map.2 ⟨p, List.mem_filter.2 ⟨hp, ?_⟩, rfl⟩, h1, hx⟩
    rw [h.const (fun q hq => inP_slc hp hx q hq)] at h2; exact h2
/-- the least point behind f -/
def toR (ps : List Int) (f : Int) : Int := ps.foldl (fun t x => if f < x then min t x else t) 1099511627776
theorem toR_spec (f : Int) : ∀ (ps : List Int) (t : Int), (ps.foldl (fun t x => if f < x then min t x else t) t ≤ t) ∧ (∀ x ∈ ps, f < x → ps.foldl (fun t x => if f < x then min t x else t) t ≤ x) ∧ (ps.foldl (fun t x => if f < x then min t x else t) t = t ∨ ∃ x ∈ ps, f < x ∧ ps.foldl (fun t x => if f < x then min t x else t) t = x)
  | [], t => by simp
  | y :: ps, t => by
    rw [List.foldl_cons]
    obtain ⟨h1, h2, h3⟩ := toR_spec f ps (if f < y then min t y else t)
    generalize ps.foldl (fun t x => if f < x then min t x else t) (if f < y then min t y else t) = r at h1 h2 h3 ⊢
    refine ⟨?_, ?_, ?_⟩
    · split at h1 <;> omega
    · intro x hx hf
      rcases List.mem_cons.1 hx with rfl | hx
      · rw [if_pos hf] at h1; omega
      · exact h2 x hx hf
    · rcases h3 with h3 | ⟨x, hx, hf, h3⟩
      · by_cases hfy : f < y
        · rw [if_pos hfy] at h3
          rcases (by omega : r = t ∨ r = y) with e | e
          · exact .inl e
          · exact .inr ⟨y, by simp, hfy, e⟩
        · rw [if_neg hfy] at h3; exact .inl h3
      · exact .inr ⟨x, by simp [hx], hf, h3⟩
/-- the greatest point up to x -/
theorem point_below {ps : List Int} {x : Int} (h : ∃ a ∈ ps, a ≤ x) : ∃ f ∈ ps, f ≤ x ∧ ∀ y ∈ ps, y ≤ x → y ≤ f := by
  induction ps with
  | nil => obtain ⟨a, ha, _⟩ := h; simp at ha
  | cons c ps ih =>
    by_cases hr : ∃ a ∈ ps, a ≤ x
    · obtain ⟨f, hf, hfx, hm⟩ := ih hr
      by_cases hc : c ≤ x ∧ f < c
      · exact ⟨c, by simp, hc.1, fun y hy hyx => by
          rcases List.mem_cons.1 hy with rfl | hy
          · exact Int.le_refl _
          · have := hm y hy hyx; omega⟩
      · exact ⟨f, by simp [hf], hfx, fun y hy hyx => by
          rcases List.mem_cons.1 hy with rfl | hy
          · omega
          · exact hm y hy hyx⟩
    · obtain ⟨a, ha, hax⟩ := h
      rcases List.mem_cons.1 ha with rfl | ha
      · exact ⟨a, by simp, hax, fun y hy hyx => by
          rcases List.mem_cons.1 hy with rfl | hy
          · exact Int.le_refl _
          · exact absurd ⟨y, hy, hyx⟩ hr⟩
      · exact absurd ⟨a, ha, hax⟩ hr
/-- the reference's regions: one from each point at which the lists differ to the next point -/
structure Outs (t : ByteArray) (ps : List Int) (D : Int → Bool) (out : List Acc) : Prop where
  of : ∀ a ∈ out, ∃ f ∈ ps, f ≠ 1099511627776 ∧ D f = true ∧ a = (t, (f, toR ps f))
  all : ∀ f ∈ ps, f ≠ 1099511627776 → D f = true → ((t, (f, toR ps f)) : Acc) ∈ out
theorem outs_in {t : ByteArray} {ps : List Int} {l : List α} {D : Int → Bool} {out : List Acc} (h : Dif v ky was is l D) (ho : Outs t ps D out) (h0 : (0 : Int) ∈ ps) (hr : ∀ z ∈ ps, 0 ≤ z ∧ z ≤ 1099511627776)
    (hb : ∀ p ∈ bndA v was is l, pvB p = true → p.1 ∈ ps ∧ p.2 ∈ ps) (s : List UInt8) (x : Int) : inT out s x = (decide (t.data.toList = s) && D x) := by
  have hD : ∀ f y, f ∈ ps → f ≤ y → y < toR ps f → D y = D f := fun f y hf hfy hy => h.const fun q hq => by
    have hs := toR_spec f ps 1099511627776
    refine bool_eq ?_
    rw [inP_iff, inP_iff]
    constructor
    · intro k
      obtain ⟨b1, b2⟩ := hb q hq (pvB_iff.2 (by omega))
      have r1 := hs.2.1 q.1 b1
      have r2 := hs.2.1 q.2 b2
      unfold toR at hy
      omega
    · intro k
      obtain ⟨b1, b2⟩ := hb q hq (pvB_iff.2 (by omega))
      have r1 := hs.2.1 q.1 b1
      have r2 := hs.2.1 q.2 b2
      unfold toR at hy
      omega
  refine bool_eq ?_
  simp only [inT, List.any_eq_true, Bool.and_eq_true, decide_eq_true_eq]
  constructor
  · rintro ⟨a, ha, h1, h2⟩
    obtain ⟨f, hf, hF, hd, rfl⟩ := ho.of a ha
    have hi := inP_iff.1 h2
    simp only at hi
    exact ⟨h1, by rw [hD f x hf hi.2.1 hi.2.2.1]; exact hd⟩
  · rintro ⟨h1, h2⟩
    have hin : inL (bndA v was is l) x = true := by
      rcases e : inL (bndA v was is l) x with _ | _
      · rw [h.out e] at h2; cases h2
      · rfl
    obtain ⟨p, _, hp⟩ := inL_iff.1 hin
    have hx := inP_iff.1 hp
    obtain ⟨f, hf, hfx, hm⟩ := point_below (ps := ps) (x := x) ⟨0, h0, by omega⟩
    have hs := toR_spec f ps 1099511627776
    have hxt : x < toR ps f := by
      unfold toR
      rcases hs.2.2 with e | ⟨y, hy, hfy, e⟩
      · rw [e]; omega
      · rw [e]
        rcases (by omega : y ≤ x ∨ x < y) with k | k
        · have := hm y hy k; omega
        · exact k
    have hfr := hr f hf
    have hle := hs.1
    unfold toR at hxt
    have hDf : D f = true := by rw [← hD f x hf hfx (by unfold toR; omega)]; exact h2
    refine ⟨_, ho.all f hf (by omega) hDf, h1, inP_iff.2 ⟨hfr.1, hfx, ?_, ?_⟩⟩
    · unfold toR; simpa using hxt
    · unfold toR; simpa using hle
end
end Go.Proofs.YtpifjhoelnacgaaGreat
