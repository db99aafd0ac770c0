/- Arguments opened: ints, structs of ints, slices of these. -/
import Derived.Test.YtahmkinppighkaaLift
set_option linter.unusedSimpArgs false
set_option linter.unusedVariables false
namespace Go.Proofs.Ytahmkinppighkaa
open Go.ChangeShapes Go.WideShapes Go.ChangeAt Go.RowKit Go.Joins Go.Deep

/-- ints as cells -/
abbrev zc (zs : List Int) : List Value := zs.map (Value.int .i64)

section
variable {P : Program}

/-- whatever reads as type t are k ints -/
def IntCells (P : Program) (t k : Nat) : Prop := ∀ {H : Type} {enc : TypeId × Value → H} {w : World} {base : Nat} {sp : Nat → Bool} {hd : Bool} {n : Nat} {cs : List Value} {x : DataW H × List MemPlace},
  DataW.trod enc P w base sp hd n t cs = some x → ∃ zs : List Int, cs = zc zs ∧ zs.length = k

theorem IntCells.int {t : TypeId} (ht : P.underlying t = some (.int .i64)) : IntCells P t 1 := by
  intro H enc w base sp hd n cs x h
  obtain ⟨a, rfl, _, _⟩ := DataW.trod_int ht h
  exact ⟨[a], rfl, rfl⟩

theorem IntCells.two {t : TypeId} {f0 f1 : Field} {k0 k1 : Nat} (ht : P.underlying t = some (.struct #[f0, f1])) (h0 : IntCells P f0.type k0) (h1 : IntCells P f1.type k1) (o0 : f0.offset = 0) (o1 : f1.offset = k0)
    (c0 : P.cellsOf f0.type = k0) (c1 : P.cellsOf f1.type = k1) (hC : P.cellsOf t = k0 + k1) : IntCells P t (k0 + k1) := by
  intro H enc w base sp hd n cs x h
  obtain ⟨ys, n', hn', hy, hlen, hyl, hf⟩ := DataW.trod_struct ht h
  have a0 := hf 0 f0 rfl
  have a1 := hf 1 f1 rfl
  rw [o0, c0, List.drop_zero] at a0
  rw [o1, c1] at a1
  have hcs : cs.length = k0 + k1 := by rw [← hC]; exact hlen
  cases hy0 : ys[0]? with
  | none => have := List.getElem?_eq_none_iff.1 hy0; simp at hyl; omega
  | some y0 =>
    cases hy1 : ys[1]? with
    | none => have := List.getElem?_eq_none_iff.1 hy1; simp at hyl; omega
    | some y1 =>
      rw [hy0] at a0
      rw [hy1] at a1
      obtain ⟨z0, e0, l0⟩ := h0 a0
      obtain ⟨z1, e1, l1⟩ := h1 a1
      refine ⟨z0 ++ z1, ?_, by rw [List.length_append, l0, l1]⟩
      rw [zc, List.map_append, ← zc, ← zc, ← e0, ← e1]
      rw [List.take_of_length_le (l := cs.drop k0) (by simp; omega), List.take_append_drop]

theorem list_of {α : Type} {Q : Nat → α → Prop} : ∀ n : Nat, (∀ i, i < n → ∃ p, Q i p) → ∃ l : List α, l.length = n ∧ ∀ i (h : i < l.length), Q i l[i]
  | 0, _ => ⟨[], rfl, fun i h => by simp at h⟩
  | n + 1, h => by
    obtain ⟨l, hl, hq⟩ := list_of n (fun i hi => h i (by omega))
    obtain ⟨p, hp⟩ := h n (by omega)
    refine ⟨l ++ [p], by simp [hl], fun i hi => ?_⟩
    by_cases hin : i < l.length
    · rw [List.getElem_append_left hin]; exact hq i hin
    · have : i = n := by simp at hi; omega
      subst this
      rw [List.getElem_append_right (by omega)]
      simpa [hl] using hp

theorem flat_get : ∀ (ls : List (List Int)) (k : Nat), (∀ z ∈ ls, z.length = k) → ∀ i (hi : i < ls.length) (j : Nat), j < k → (zc ls.flatten)[i * k + j]? = (zc ls[i])[j]?
  | [], k, _, i, hi, j, _ => by simp at hi
  | z :: ls, k, h, 0, hi, j, hj => by
    have hz := h z (by simp)
    simp only [List.flatten_cons, List.map_append, Nat.zero_mul, Nat.zero_add, List.getElem_cons_zero]
    rw [List.getElem?_append_left (by simp [hz]; exact hj)]
  | z :: ls, k, h, i + 1, hi, j, hj => by
    have hz := h z (by simp)
    simp only [List.flatten_cons, List.map_append, List.getElem_cons_succ]
    rw [List.getElem?_append_right (by simp [hz, Nat.add_mul]; omega)]
    have := flat_get ls k (fun z hz => h z (by simp [hz])) i (by simpa using hi) j hj
    rw [← this]
    congr 1
    simp [hz, Nat.add_mul]
    omega

theorem flat_lenO : ∀ (ls : List (List Int)) (k : Nat), (∀ z ∈ ls, z.length = k) → ls.flatten.length = ls.length * k
  | [], k, _ => by simp
  | z :: ls, k, h => by
    have := flat_lenO ls k (fun z hz => h z (by simp [hz]))
    simp [h z (by simp), Nat.add_mul] at *
    omega

/-- a slice of such elements -/
theorem open_flat {t e k : Nat} (ht : P.underlying t = some (.slice e)) (hI : IntCells P e k) (hC : P.cellsOf e = k) (hk : 0 < k) {H : Type} {enc : TypeId × Value → H} {w : World} {v : Value} {d : DataW H} {p : List MemPlace}
    (h : DataW.Trod enc P w 0 (fun _ => true) true t v d p) {a0 : Option Addr} {l0 c0 : Nat} (hv : v = .slice a0 l0 c0) :
    ∃ (A : Option Addr) (c : Nat) (ls : List (List Int)), v = .slice A ls.length c ∧ ls.length ≤ c ∧ c ≤ maxLen ∧ (∀ z ∈ ls, z.length = k) ∧ Rd w k A ls.length (zc ls.flatten) ∧ (d = .nil ∧ ls = [] ∨ ∃ elems spare, d = .slice elems spare ∧ elems.length = ls.length) := by
  subst hv
  obtain ⟨fuel, hf⟩ := h
  have hf' : DataW.trod enc P w 0 (fun _ => true) true fuel t [.slice a0 l0 c0] = some (d, p) := hf
  rcases open_slice ht hf' with ⟨hcs, hx⟩ | ⟨a, len, cap, m, n, D, Pl, hcs, hb, hl, hm, hmm, hx, hi⟩
  · simp only [List.cons.injEq, Value.slice.injEq, and_true] at hcs
    obtain ⟨rfl, rfl, rfl⟩ := hcs
    simp only [Prod.mk.injEq] at hx
    exact ⟨none, 0, [], rfl, Nat.le_refl _, Nat.zero_le _, by simp, Rd.nil, .inl ⟨hx.1, rfl⟩⟩
  · simp only [List.cons.injEq, Value.slice.injEq, and_true] at hcs
    obtain ⟨rfl, rfl, rfl⟩ := hcs
    simp only [Prod.mk.injEq] at hx
    simp only [if_true] at hmm
    subst hmm
    have hq : ∀ i, i < l0 → ∃ z : List Int, z.length = k ∧ ∀ j, j < k → w.cell? (a.add (i * k + j)) = (zc z)[j]? := by
      intro i hil
      obtain ⟨cs', hc, ht'⟩ := hi i (by omega)
      obtain ⟨z, rfl, hz⟩ := hI ht'
      obtain ⟨_, _, hat⟩ := World.cells?_some hc
      rw [hC] at hat
      refine ⟨z, hz, fun j hj => ?_⟩
      rw [← Go.Deep.add_add]
      exact hat j hj
    obtain ⟨ls, hls, hql⟩ := list_of l0 hq
    subst hls
    have hall : ∀ z ∈ ls, z.length = k := by
      intro z hz
      obtain ⟨i, hi', rfl⟩ := List.getElem_of_mem hz
      exact (hql i hi').1
    refine ⟨some a, _, ls, rfl, hl, hm, hall, ⟨by rw [zc, List.length_map, flat_lenO ls k hall], fun hpos => ?_⟩, .inr ⟨_, _, hx.1, by simp⟩⟩
    have hlp : 0 < ls.length := by
      rcases Nat.eq_zero_or_pos ls.length with h0 | h0
      · rw [h0] at hpos; simp at hpos
      · exact h0
    have hz0 := (hql 0 hlp).1
    have h00 := (hql 0 hlp).2 0 hk
    rw [Nat.zero_mul, Nat.add_zero, List.getElem?_eq_getElem (by simp [hz0]; exact hk)] at h00
    have ha0 : a.add 0 = a := by simp [Addr.add]
    rw [ha0] at h00
    obtain ⟨b, o, s⟩ := a
    have hs : s = none := by
      cases s with
      | none => rfl
      | some s =>
        exfalso
        simp only [World.cell?] at h00
        split at h00 <;> simp at h00
    subst hs
    refine ⟨b, o, rfl, cell_lt h00, fun j u hu => ?_⟩
    have hj : j < ls.length * k := by
      have := (List.getElem?_eq_some_iff.1 hu).1
      rwa [zc, List.length_map, flat_lenO ls k hall] at this
    have hdm : j / k < ls.length := Nat.div_lt_of_lt_mul (by rw [Nat.mul_comm]; exact hj)
    have hjm : j / k * k + j % k = j := Nat.div_add_mod' j k
    have h1 := (hql (j / k) hdm).2 (j % k) (Nat.mod_lt _ hk)
    rw [hjm, add_none] at h1
    rw [h1, ← flat_get ls k hall (j / k) hdm (j % k) (Nat.mod_lt _ hk), hjm]
    exact hu

end

/-- lists of two ints as pairs -/
def pairs (ls : List (List Int)) : List (Int × Int) := ls.map fun z => (z.getD 0 0, z.getD 1 0)
theorem pairs_pc : ∀ (ls : List (List Int)), (∀ z ∈ ls, z.length = 2) → zc ls.flatten = pc (pairs ls)
  | [], _ => rfl
  | z :: ls, h => by
    have := pairs_pc ls (fun z hz => h z (by simp [hz]))
    match z, h z (by simp) with
    | [a, b], _ => simp [pc, pairs] at *; exact this
theorem pairs_len (ls : List (List Int)) : (pairs ls).length = ls.length := by simp [pairs]
def singles (ls : List (List Int)) : List Int := ls.map fun z => z.getD 0 0
theorem singles_ic : ∀ (ls : List (List Int)), (∀ z ∈ ls, z.length = 1) → zc ls.flatten = ic (singles ls)
  | [], _ => rfl
  | z :: ls, h => by
    have := singles_ic ls (fun z hz => h z (by simp [hz]))
    match z, h z (by simp) with
    | [a], _ => simp [ic, singles] at *; exact this
theorem singles_len (ls : List (List Int)) : (singles ls).length = ls.length := by simp [singles]

end Go.Proofs.Ytahmkinppighkaa
