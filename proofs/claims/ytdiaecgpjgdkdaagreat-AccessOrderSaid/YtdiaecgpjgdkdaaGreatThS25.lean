/- Lemmas for the rows: StQ. -/
import Derived.Test.YtdiaecgpjgdkdaaGreatThS02
import Derived.Shelf.SlSortCmp.KitK
set_option linter.unusedSimpArgs false
set_option linter.unusedVariables false
namespace Go.Proofs.YtdiaecgpjgdkdaaGreat
open Go.Proofs Go.Sort

section
variable {α : Type} [Inhabited α]

theorem arr_get {dk : Array α} {X A Z : List α} (h : dk.toList = X ++ (A ++ Z)) {t i : Nat} (ht : t < A.length) (hi : i = X.length + t) : dk[i]! = A[t] := by
 have hs : i < dk.size := by have := congrArg List.length h; simp at this; omega
 rw [getElem!_pos dk i hs]
 have h1 : dk[i]? = some dk[i] := Array.getElem?_eq_getElem hs
 rw [← Array.getElem?_toList, h, List.getElem?_append_right (by omega), List.getElem?_append_left (by omega), List.getElem?_eq_getElem (by omega)] at h1
 simp only [hi, Nat.add_sub_cancel_left, Option.some.injEq] at h1
 subst hi
 exact h1.symm
theorem arr_at {dk : Array α} {X Z : List α} {x : α} (h : dk.toList = X ++ x :: Z) {i : Nat} (hi : i = X.length) : dk[i]! = x :=
 arr_get (A := [x]) (by simpa using h) (t := 0) (by simp) (by omega)

theorem swp_list {dk : Array α} {X Y Z : List α} {x y : α} (h : dk.toList = X ++ x :: (Y ++ y :: Z)) {i j : Nat} (hi : i = X.length) (hj : j = X.length + 1 + Y.length) : (swp dk i j).toList = X ++ y :: (Y ++ x :: Z) := by
 have hx : dk[i]! = x := arr_at h hi
 have hy : dk[j]! = y := arr_at (X := X ++ x :: Y) (Z := Z) (by simpa using h) (by simp; omega)
 unfold swp
 rw [hx, hy, Array.toList_setIfInBounds, Array.toList_setIfInBounds, h]
 subst hi hj
 rw [List.set_append_right _ _ (Nat.le_refl _), Nat.sub_self, List.set_cons_zero, List.set_append_right _ _ (by omega), show X.length + 1 + Y.length - X.length = Y.length + 1 by omega, List.set_cons_succ, List.set_append_right _ _ (Nat.le_refl _), Nat.sub_self, List.set_cons_zero]

theorem swp_next {dk : Array α} {X Z : List α} {x y : α} (h : dk.toList = X ++ x :: y :: Z) {i j : Nat} (hi : i = X.length) (hj : j = X.length + 1) : (swp dk i j).toList = X ++ y :: x :: Z :=
 swp_list (Y := []) (by simpa using h) hi (by simpa using hj)
theorem swp_comm (dk : Array α) (i j : Nat) : swp dk i j = swp dk j i := by
 unfold swp
 by_cases h : i = j
 ·
  subst h; rfl
 ·
  rw [Array.setIfInBounds_comm _ _ h]

variable {lt : α → α → Bool}
theorem sym_split (hO : Swo lt) {dk : Array α} {X A B Z : List α} (h : dk.toList = X ++ (A ++ (B ++ Z))) (hA : Srt lt A) (hB : Srt lt B) {a m b s e : Nat} (ha : a = X.length) (hm : m = a + A.length) (hb : b = m + B.length) (hs1 : a ≤ s) (hs2 : s ≤ m) (he1 : m ≤ e) (he2 : e ≤ b)
  (low : s = a ∨ e = b ∨ lt dk[e]! dk[s - 1]! = false) (high : s = m ∨ e = m ∨ lt dk[e - 1]! dk[s]! = true) :
  mrg lt A B = mrg lt (A.take (s - a)) (B.take (e - m)) ++ mrg lt (A.drop (s - a)) (B.drop (e - m)) := by
 have gA : ∀ t, (ht : t < A.length) → dk[a + t]! = A[t] := fun t ht => arr_get (Z := B ++ Z) h ht (by omega)
 have gB : ∀ t, (ht : t < B.length) → dk[m + t]! = B[t] := fun t ht => arr_get (X := X ++ A) (Z := Z) (by simpa using h) ht (by simp; omega)
 have hsp := mrg_split (lt := lt) (a2 := A.drop (s - a)) (b2 := B.drop (e - m)) (A.take (s - a)) (B.take (e - m)) (fun x hx y hy => by
  obtain ⟨t, ht, rfl⟩ := List.getElem_of_mem hx
  obtain ⟨u, hu, rfl⟩ := List.getElem_of_mem hy
  rw [List.length_take] at ht
  rw [List.length_drop] at hu
  rw [List.getElem_take, List.getElem_drop]
  rcases low with h0 | h0 | h0
  ·
   omega
  ·
   omega
  ·
   have e1 := gA (s - 1 - a) (by omega)
   have e2 := gB (e - m) (by omega)
   rw [show a + (s - 1 - a) = s - 1 by omega] at e1
   rw [show m + (e - m) = e by omega] at e2
   rw [e1, e2] at h0
   have k1 := hA.at hO (i := t) (j := s - 1 - a) (by omega) (by omega)
   have k2 := hB.at hO (i := e - m) (j := e - m + u) (by omega) (by omega)
   exact hO.le_trans (hO.le_trans k1 h0) k2) (fun y hy x hx => by
  obtain ⟨t, ht, rfl⟩ := List.getElem_of_mem hx
  obtain ⟨u, hu, rfl⟩ := List.getElem_of_mem hy
  rw [List.length_drop] at ht
  rw [List.length_take] at hu
  rw [List.getElem_take, List.getElem_drop]
  rcases high with h0 | h0 | h0
  ·
   omega
  ·
   omega
  ·
   have e1 := gA (s - a) (by omega)
   have e2 := gB (e - 1 - m) (by omega)
   rw [show a + (s - a) = s by omega] at e1
   rw [show m + (e - 1 - m) = e - 1 by omega] at e2
   rw [e1, e2] at h0
   have k1 := hA.at hO (i := s - a) (j := s - a + t) (by omega) (by omega)
   have k2 := hB.at hO (i := u) (j := e - 1 - m) (by omega) (by omega)
   -- lt B[e-1-m] A[s-a], B[u] ≤ B[e-1-m], A[s-a] ≤ A[s-a+t]
   have k3 := hO.lt_le h0 k1
   rcases hO.neg _ B[u] _ k3 with k4 | k4
   ·
    rw [k2] at k4; cases k4
   ·
    exact k4)
 rwa [List.take_append_drop, List.take_append_drop] at hsp

theorem sym_one (hO : Swo lt) {dk : Array α} {X B Z : List α} {x : α} (h : dk.toList = X ++ (x :: (B ++ Z))) (hB : Srt lt B) {a m b i : Nat} (ha : a = X.length) (hm : m = a + 1) (hb : b = m + B.length) (hi1 : m ≤ i) (hi2 : i ≤ b)
  (low : i = m ∨ lt dk[i - 1]! x = true) (high : i = b ∨ lt dk[i]! x = false) : mrg lt [x] B = B.take (i - m) ++ x :: B.drop (i - m) := by
 have gB : ∀ t, (ht : t < B.length) → dk[m + t]! = B[t] := fun t ht => arr_get (X := X ++ [x]) (Z := Z) (by simpa using h) ht (by simp; omega)
 have hsp := mrg_ins2 (lt := lt) (x := x) (l1 := B.take (i - m)) (l2 := B.drop (i - m)) (fun y hy => by
  obtain ⟨u, hu, rfl⟩ := List.getElem_of_mem hy
  rw [List.length_take] at hu
  rw [List.getElem_take]
  rcases low with h0 | h0
  ·
   omega
  ·
   have e2 := gB (i - 1 - m) (by omega)
   rw [show m + (i - 1 - m) = i - 1 by omega] at e2
   rw [e2] at h0
   have k2 := hB.at hO (i := u) (j := i - 1 - m) (by omega) (by omega)
   rcases hO.neg _ B[u] _ h0 with k4 | k4
   ·
    rw [k2] at k4; cases k4
   ·
    exact k4) (fun y hy => by
  obtain ⟨u, hu, rfl⟩ := List.getElem_of_mem hy
  rw [List.length_drop] at hu
  rw [List.getElem_drop]
  rcases high with h0 | h0
  ·
   omega
  ·
   have e2 := gB (i - m) (by omega)
   rw [show m + (i - m) = i by omega] at e2
   rw [e2] at h0
   exact hO.le_trans h0 (hB.at hO (i := i - m) (j := i - m + u) (by omega) (by omega)))
 rwa [List.take_append_drop] at hsp
theorem sym_last (hO : Swo lt) {dk : Array α} {X A Z : List α} {y : α} (h : dk.toList = X ++ (A ++ (y :: Z))) (hA : Srt lt A) {a m i : Nat} (ha : a = X.length) (hm : m = a + A.length) (hi1 : a ≤ i) (hi2 : i ≤ m)
  (low : i = a ∨ lt y dk[i - 1]! = false) (high : i = m ∨ lt y dk[i]! = true) : mrg lt A [y] = A.take (i - a) ++ y :: A.drop (i - a) := by
 have gA : ∀ t, (ht : t < A.length) → dk[a + t]! = A[t] := fun t ht => arr_get (Z := y :: Z) h ht (by omega)
 have hsp := mrg_ins (lt := lt) (x := y) (l1 := A.take (i - a)) (l2 := A.drop (i - a)) (fun z hz => by
  obtain ⟨u, hu, rfl⟩ := List.getElem_of_mem hz
  rw [List.length_take] at hu
  rw [List.getElem_take]
  rcases low with h0 | h0
  ·
   omega
  ·
   have e2 := gA (i - 1 - a) (by omega)
   rw [show a + (i - 1 - a) = i - 1 by omega] at e2
   rw [e2] at h0
   exact hO.le_trans (hA.at hO (i := u) (j := i - 1 - a) (by omega) (by omega)) h0) (fun z hz => by
  obtain ⟨u, hu, rfl⟩ := List.getElem_of_mem hz
  rw [List.length_drop] at hu
  rw [List.getElem_drop]
  rcases high with h0 | h0
  ·
   omega
  ·
   have e2 := gA (i - a) (by omega)
   rw [show a + (i - a) = i by omega] at e2
   rw [e2] at h0
   exact hO.lt_le h0 (hA.at hO (i := i - a) (j := i - a + u) (by omega) (by omega)))
 rwa [List.take_append_drop] at hsp
end
end Go.Proofs.YtdiaecgpjgdkdaaGreat
