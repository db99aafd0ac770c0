/- Lemmas for the rows: StP. -/
import Derived.Test.YtdiaecgpjgdkdaaGreatRows
set_option linter.unusedSimpArgs false
set_option linter.unusedVariables false
namespace Go.Proofs.YtdiaecgpjgdkdaaGreat

section
variable {α : Type} (lt : α → α → Bool)

def mrg : List α → List α → List α
 | [], b => b
 | x :: a, [] => x :: a
 | x :: a, y :: b => if lt y x then y :: mrg (x :: a) b else x :: mrg a (y :: b)
termination_by a b => a.length + b.length
def isort (l : List α) : List α := l.foldl (fun acc x => mrg lt acc [x]) []

structure Swo : Prop where
 asym : ∀ x y, lt x y = true → lt y x = false
 neg : ∀ x y z, lt x z = true → lt x y = true ∨ lt y z = true

def Srt (l : List α) : Prop := l.Pairwise fun x y => lt y x = false

variable {lt}
theorem mrg_nil_left (b : List α) : mrg lt [] b = b := by rw [mrg]
theorem mrg_nil_right (a : List α) : mrg lt a [] = a := by cases a <;> rw [mrg]
theorem mrg_lt {x y : α} {a b : List α} (h : lt y x = true) : mrg lt (x :: a) (y :: b) = y :: mrg lt (x :: a) b := by rw [mrg, if_pos h]
theorem mrg_le {x y : α} {a b : List α} (h : lt y x = false) : mrg lt (x :: a) (y :: b) = x :: mrg lt a (y :: b) := by rw [mrg, if_neg (by rw [h]; simp)]
theorem mrg_length : ∀ (a b : List α), (mrg lt a b).length = a.length + b.length
 | [], b => by rw [mrg_nil_left]; simp
 | x :: a, [] => by rw [mrg_nil_right]; simp
 | x :: a, y :: b => by
  cases h : lt y x with
  | true => rw [mrg_lt h, List.length_cons, mrg_length (x :: a) b]; simp; omega
  | false => rw [mrg_le h, List.length_cons, mrg_length a (y :: b)]; simp; omega
termination_by a b => a.length + b.length
theorem mrg_perm : ∀ (a b : List α), (mrg lt a b).Perm (a ++ b)
 | [], b => by rw [mrg_nil_left]; exact List.Perm.refl _
 | x :: a, [] => by rw [mrg_nil_right, List.append_nil]
 | x :: a, y :: b => by
  cases h : lt y x with
  | true => rw [mrg_lt h]; exact ((mrg_perm (x :: a) b).cons y).trans List.perm_middle.symm
  | false => rw [mrg_le h]; exact (mrg_perm a (y :: b)).cons x
termination_by a b => a.length + b.length
theorem mem_mrg {a b : List α} {z : α} : z ∈ mrg lt a b ↔ z ∈ a ∨ z ∈ b := by rw [(mrg_perm a b).mem_iff, List.mem_append]

theorem Swo.le_trans (h : Swo lt) {x y z : α} (h1 : lt y x = false) (h2 : lt z y = false) : lt z x = false := by
 cases h3 : lt z x with
 | false => rfl
 | true => rcases h.neg z y x h3 with h4 | h4 <;> simp_all
theorem Swo.lt_trans (h : Swo lt) {x y z : α} (h1 : lt x y = true) (h2 : lt y z = true) : lt x z = true := by
 rcases h.neg y x z h2 with h3 | h3
 ·
  rw [h.asym _ _ h1] at h3; cases h3
 ·
  exact h3
theorem Swo.lt_le (h : Swo lt) {x y z : α} (h1 : lt x y = true) (h2 : lt z y = false) : lt x z = true := by
 rcases h.neg x z y h1 with h3 | h3
 ·
  exact h3
 ·
  rw [h2] at h3; cases h3

theorem mrg_assoc (h : Swo lt) : ∀ (a b c : List α), mrg lt (mrg lt a b) c = mrg lt a (mrg lt b c)
 | [], b, c => by rw [mrg_nil_left, mrg_nil_left]
 | x :: a, [], c => by rw [mrg_nil_right, mrg_nil_left]
 | x :: a, y :: b, [] => by rw [mrg_nil_right, mrg_nil_right]
 | x :: a, y :: b, z :: c => by
  cases hyx : lt y x with
  | true =>
   rw [mrg_lt hyx]
   cases hzy : lt z y with
   | true =>
    have hzx := h.lt_trans hzy hyx
    rw [mrg_lt hzy, mrg_lt (a := b) hzy, mrg_lt hzx, ← mrg_lt hyx, mrg_assoc h (x :: a) (y :: b) c]
   | false =>
    rw [mrg_le hzy, mrg_le hzy, mrg_lt hyx, mrg_assoc h (x :: a) b (z :: c)]
  | false =>
   rw [mrg_le hyx]
   cases hzy : lt z y with
   | true =>
    rw [mrg_lt (a := b) hzy]
    cases hzx : lt z x with
    | true => rw [mrg_lt hzx, mrg_lt hzx, ← mrg_le hyx, mrg_assoc h (x :: a) (y :: b) c]
    | false => rw [mrg_le hzx, mrg_le hzx, mrg_assoc h a (y :: b) (z :: c), mrg_lt hzy]
   | false =>
    have hzx := h.le_trans hyx hzy
    rw [mrg_le (a := b) hzy, mrg_le hzx, mrg_le hyx, mrg_assoc h a (y :: b) (z :: c), mrg_le hzy]
termination_by a b c => a.length + b.length + c.length

theorem mrg_srt (h : Swo lt) : ∀ (a b : List α), Srt lt a → Srt lt b → Srt lt (mrg lt a b)
 | [], b, _, hb => by rw [mrg_nil_left]; exact hb
 | x :: a, [], ha, _ => by rw [mrg_nil_right]; exact ha
 | x :: a, y :: b, ha, hb => by
  obtain ⟨ha1, ha2⟩ := List.pairwise_cons.1 ha
  obtain ⟨hb1, hb2⟩ := List.pairwise_cons.1 hb
  cases hyx : lt y x with
  | true =>
   rw [mrg_lt hyx]
   refine List.pairwise_cons.2 ⟨fun z hz => ?_, mrg_srt h (x :: a) b ha hb2⟩
   have hxy := h.asym _ _ hyx
   rcases mem_mrg.1 hz with hz | hz
   ·
    rcases List.mem_cons.1 hz with rfl | hz
    ·
     exact hxy
    ·
     exact h.le_trans hxy (ha1 z hz)
   ·
    exact hb1 z hz
  | false =>
   rw [mrg_le hyx]
   refine List.pairwise_cons.2 ⟨fun z hz => ?_, mrg_srt h a (y :: b) ha2 hb⟩
   rcases mem_mrg.1 hz with hz | hz
   ·
    exact ha1 z hz
   ·
    rcases List.mem_cons.1 hz with rfl | hz
    ·
     exact hyx
    ·
     exact h.le_trans hyx (hb1 z hz)
termination_by a b => a.length + b.length

theorem Srt.at (hO : Swo lt) {A : List α} (h : Srt lt A) {i j : Nat} (hij : i ≤ j) (hj : j < A.length) : lt A[j] (A[i]'(by omega)) = false := by
 rcases Nat.eq_or_lt_of_le hij with rfl | hlt
 ·
  cases hh : lt A[i] A[i] with
  | false => rfl
  | true => rw [hO.asym _ _ hh] at hh; cases hh
 ·
  exact List.pairwise_iff_getElem.1 h i j (by omega) hj hlt

theorem mrg_split {a2 b2 : List α} : ∀ (a1 b1 : List α), (∀ x ∈ a1, ∀ y ∈ b2, lt y x = false) → (∀ y ∈ b1, ∀ x ∈ a2, lt y x = true) → mrg lt (a1 ++ a2) (b1 ++ b2) = mrg lt a1 b1 ++ mrg lt a2 b2
 | [], [], _, _ => by rw [mrg_nil_left]; rfl
 | [], y :: b1, h1, h2 => by
  rw [mrg_nil_left]
  cases a2 with
  | nil => simp only [List.nil_append]; rw [mrg_nil_left, mrg_nil_left]
  | cons x a2 =>
   have hyx := h2 y (by simp) x (by simp)
   have ih := mrg_split (a2 := x :: a2) (b2 := b2) [] b1 (by simp) fun u hu => h2 u (by simp [hu])
   rw [mrg_nil_left] at ih
   rw [List.cons_append, List.nil_append, mrg_lt hyx, List.cons_append, ← ih]
   rfl
 | x :: a1, [], h1, h2 => by
  rw [mrg_nil_right]
  cases b2 with
  | nil => simp only [List.append_nil]; rw [mrg_nil_right, mrg_nil_right]
  | cons y b2 =>
   have hyx := h1 x (by simp) y (by simp)
   have ih := mrg_split (a2 := a2) (b2 := y :: b2) a1 [] (fun u hu => h1 u (by simp [hu])) (by simp)
   rw [mrg_nil_right] at ih
   rw [List.cons_append, List.nil_append, mrg_le hyx, List.cons_append, ← ih]
   rfl
 | x :: a1, y :: b1, h1, h2 => by
  rw [List.cons_append, List.cons_append]
  cases hyx : lt y x with
  | true =>
   rw [mrg_lt hyx, mrg_lt hyx, List.cons_append, ← List.cons_append, mrg_split (x :: a1) b1 h1 fun u hu => h2 u (by simp [hu])]
  | false =>
   rw [mrg_le hyx, mrg_le hyx, List.cons_append, ← List.cons_append, mrg_split a1 (y :: b1) (fun u hu => h1 u (by simp [hu])) h2]
termination_by a1 b1 => a1.length + b1.length

theorem mrg_front {x : α} {l : List α} (h : ∀ y ∈ l, lt x y = true) : mrg lt l [x] = x :: l := by
 cases l with
 | nil => rw [mrg_nil_left]
 | cons y l => rw [mrg_lt (h y (by simp)), mrg_nil_right]
theorem mrg_behind {x : α} {l : List α} (h : ∀ y ∈ l, lt y x = false) : mrg lt [x] l = x :: l := by
 cases l with
 | nil => rw [mrg_nil_right]
 | cons y l => rw [mrg_le (h y (by simp)), mrg_nil_left]
theorem mrg_ins {x : α} {l1 l2 : List α} (h1 : ∀ y ∈ l1, lt x y = false) (h2 : ∀ y ∈ l2, lt x y = true) : mrg lt (l1 ++ l2) [x] = l1 ++ x :: l2 := by
 have h := mrg_split (lt := lt) (a2 := l2) (b2 := [x]) l1 [] (by simpa using h1) (by simp)
 rw [List.nil_append] at h
 rw [h, mrg_nil_right, mrg_front h2]
theorem mrg_ins2 {x : α} {l1 l2 : List α} (h1 : ∀ y ∈ l1, lt y x = true) (h2 : ∀ y ∈ l2, lt y x = false) : mrg lt [x] (l1 ++ l2) = l1 ++ x :: l2 := by
 have h := mrg_split (lt := lt) (a2 := [x]) (b2 := l2) [] l1 (by simp) (by simpa using h1)
 rw [List.nil_append] at h
 rw [h, mrg_nil_left, mrg_behind h2]

theorem isort_snoc (l : List α) (x : α) : isort lt (l ++ [x]) = mrg lt (isort lt l) [x] := by unfold isort; rw [List.foldl_append]; rfl
theorem isort_nil : isort lt ([] : List α) = [] := rfl
theorem isort_one (x : α) : isort lt [x] = [x] := by rw [show [x] = [] ++ [x] from rfl, isort_snoc, isort_nil, mrg_nil_left]; rfl
theorem isort_srt (h : Swo lt) (l : List α) : Srt lt (isort lt l) := by
 suffices hh : ∀ (l acc : List α), Srt lt acc → Srt lt (l.foldl (fun acc x => mrg lt acc [x]) acc) from hh l [] List.Pairwise.nil
 intro l
 induction l with
 | nil => exact fun _ h => h
 | cons x l ih => exact fun acc ha => ih _ (mrg_srt h _ _ ha (List.pairwise_singleton _ _))
theorem isort_append (h : Swo lt) (u v : List α) : isort lt (u ++ v) = mrg lt (isort lt u) (isort lt v) := by
 suffices hh : ∀ (n : Nat) (v : List α), v.length = n → isort lt (u ++ v) = mrg lt (isort lt u) (isort lt v) from hh _ v rfl
 intro n
 induction n with
 | zero => intro v hv; obtain rfl := List.eq_nil_of_length_eq_zero hv; rw [isort_nil, mrg_nil_right, List.append_nil]
 | succ n ih =>
  intro v hv
  rcases List.eq_nil_or_concat v with rfl | ⟨w, x, rfl⟩
  ·
   simp at hv
  ·
   rw [List.concat_eq_append] at hv ⊢
   rw [← List.append_assoc, isort_snoc, isort_snoc, ih w (by simpa using hv), mrg_assoc h]
theorem isort_perm (l : List α) : (isort lt l).Perm l := by
 suffices hh : ∀ (l acc : List α), (l.foldl (fun acc x => mrg lt acc [x]) acc).Perm (acc ++ l) by simpa [isort] using hh l []
 intro l
 induction l with
 | nil => intro acc; simp
 | cons x l ih =>
  intro acc
  refine (ih _).trans ?_
  have := (mrg_perm (lt := lt) acc [x]).append_right l
  simpa using this
theorem isort_length (l : List α) : (isort lt l).length = l.length := (isort_perm l).length_eq

def chunkS (lt : α → α → Bool) (bs : Nat) (l : List α) : List α := if _h : l.length ≤ bs ∨ bs = 0 then isort lt l else isort lt (l.take bs) ++ chunkS lt bs (l.drop bs)
termination_by l.length
decreasing_by simp; omega
theorem chunkS_end {bs : Nat} {l : List α} (h : l.length ≤ bs) : chunkS lt bs l = isort lt l := by rw [chunkS, dif_pos (.inl h)]
theorem chunkS_go {bs : Nat} {l : List α} (h : bs < l.length) (h0 : 0 < bs) : chunkS lt bs l = isort lt (l.take bs) ++ chunkS lt bs (l.drop bs) := by rw [chunkS, dif_neg (by omega)]
theorem chunkS_length (bs : Nat) (l : List α) : (chunkS lt bs l).length = l.length := by
 rw [chunkS]
 split
 ·
  exact isort_length l
 ·
  rw [List.length_append, isort_length, chunkS_length bs (l.drop bs), List.length_take, List.length_drop]; omega
termination_by l.length
decreasing_by simp; omega
end
section
variable {α : Type}
theorem chunkS_head {lt : α → α → Bool} {bs : Nat} (h0 : 0 < bs) {U W : List α} (hU : U.length = bs) : chunkS lt bs (U ++ W) = isort lt U ++ chunkS lt bs W := by
 cases W with
 | nil => rw [List.append_nil, chunkS_end (by omega), chunkS_end (by simp), isort_nil, List.append_nil]
 | cons x W =>
  rw [chunkS_go (by simp; omega) h0]
  subst hU
  rw [List.take_left, List.drop_left]
theorem chunkS_append {lt : α → α → Bool} {bs : Nat} (h0 : 0 < bs) : ∀ (q : Nat) (U V : List α), U.length = q * bs → chunkS lt bs (U ++ V) = chunkS lt bs U ++ chunkS lt bs V
 | 0, U, V, h => by
  obtain rfl : U = [] := List.eq_nil_of_length_eq_zero (by omega)
  rw [chunkS_end (bs := bs) (l := []) (by simp), isort_nil]; rfl
 | q + 1, U, V, h => by
  rw [Nat.add_mul] at h
  have h1 : (U.take bs).length = bs := by simp; omega
  have h2 : (U.drop bs).length = q * bs := by simp; omega
  have e : U = U.take bs ++ U.drop bs := (List.take_append_drop _ _).symm
  rw [e, List.append_assoc, chunkS_head h0 h1, chunkS_append h0 q _ V h2, chunkS_head h0 h1, List.append_assoc]
end
end Go.Proofs.YtdiaecgpjgdkdaaGreat
