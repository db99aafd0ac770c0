/- The reference of packed trees: nodes as values, its leaves, its nodes above nodes. -/
import Derived.Test.YtahmkinppighkaaTrM
import Derived.Test.YtahmkinppighkaaTrE
import Derived.IntWalk
set_option linter.unusedSimpArgs false
set_option linter.unusedVariables false
namespace Go.Proofs.Ytahmkinppighkaa
open Go.RowKit


/-- the six cells of a node of the reference -/
def nodc (r : Rct) (u v : Value) : List Value := [.int .i64 r.1.1, .int .i64 r.1.2, .int .i64 r.2.1, .int .i64 r.2.2, u, v]
abbrev nodg (r : Rct) (u v : Value) : Value := .agg #[.int .i64 r.1.1, .int .i64 r.1.2, .int .i64 r.2.1, .int .i64 r.2.2, u, v]
mutual
/-- the cells are the node -/
def RM (w : World) : Tr → List Value → Prop
  | .lf r bs, cs => ∃ A c, cs = nodc r (.slice A bs.length c) (.slice none 0 0) ∧ bs.length ≤ 1048576 ∧ Rd w 5 A bs.length (bxl bs)
  | .nd r ks, cs => ∃ A c css, cs = nodc r (.slice none 0 0) (.slice A ks.length c) ∧ ks.length ≤ 1048576 ∧ Rd w 6 A ks.length (List.flatten css) ∧ RMs w ks css
def RMs (w : World) : List Tr → List (List Value) → Prop
  | [], css => css = []
  | t :: ts, css => ∃ cs css', css = cs :: css' ∧ RM w t cs ∧ RMs w ts css'
end
mutual
theorem RM.ext {w w' : World} (e : Ext w w') : ∀ {t : Tr} {cs : List Value}, RM w t cs → RM w' t cs
  | .lf r bs, cs, h => by
    rw [RM] at h ⊢
    obtain ⟨A, c, h1, h2, h3⟩ := h
    exact ⟨A, c, h1, h2, h3.ext e⟩
  | .nd r ks, cs, h => by
    rw [RM] at h ⊢
    obtain ⟨A, c, css, h1, h2, h3, h4⟩ := h
    exact ⟨A, c, css, h1, h2, h3.ext e, RMs.ext e h4⟩
theorem RMs.ext {w w' : World} (e : Ext w w') : ∀ {ts : List Tr} {css : List (List Value)}, RMs w ts css → RMs w' ts css
  | [], css, h => by rw [RMs] at h ⊢; exact h
  | t :: ts, css, h => by
    rw [RMs] at h ⊢
    obtain ⟨cs, css', h1, h2, h3⟩ := h
    exact ⟨cs, css', h1, RM.ext e h2, RMs.ext e h3⟩
end
/-- what a node's cells are -/
theorem RM.form {w : World} {t : Tr} {cs : List Value} (h : RM w t cs) : ∃ A c A' c' css, cs = nodc t.r (.slice A t.bs.length c) (.slice A' t.ks.length c') ∧ t.ks.length ≤ 1048576 ∧ Rd w 6 A' t.ks.length (List.flatten css) ∧ RMs w t.ks css := by
  cases t with
  | lf r bs =>
    rw [RM] at h
    obtain ⟨A, c, h1, h2, h3⟩ := h
    exact ⟨A, c, none, 0, [], h1, by simp [Tr.ks], Rd.nil, by simp [Tr.ks, RMs]⟩
  | nd r ks =>
    rw [RM] at h
    obtain ⟨A, c, css, h1, h2, h3, h4⟩ := h
    exact ⟨none, 0, A, c, css, h1, h2, h3, h4⟩
theorem RMs.get {w : World} : ∀ {ts : List Tr} {css : List (List Value)}, RMs w ts css → css.length = ts.length ∧ ∀ k (hk : k < ts.length), ∃ cs, css[k]? = some cs ∧ RM w ts[k] cs ∧ ∀ j, j < 6 → css.flatten[k * 6 + j]? = cs[j]?
  | [], css, h => by rw [RMs] at h; subst h; exact ⟨rfl, fun k hk => by simp at hk⟩
  | t :: ts, css, h => by
    rw [RMs] at h
    obtain ⟨cs, css', rfl, h2, h3⟩ := h
    have h4 := RMs.get h3
    have hl : cs.length = 6 := by obtain ⟨A, c, A', c', c2, rfl, _⟩ := h2.form; rfl
    refine ⟨by simp [h4.1], fun k hk => ?_⟩
    cases k with
    | zero => exact ⟨cs, rfl, h2, fun j hj => by simp [List.getElem?_append_left (show j < cs.length by omega)]⟩
    | succ k =>
      obtain ⟨cs', a, b, c⟩ := h4.2 k (by simpa using hk)
      refine ⟨cs', by simpa using a, b, fun j hj => ?_⟩
      rw [← c j hj, List.flatten_cons, List.getElem?_append_right (by omega)]
      congr 1
      omega
/-- the k-th node of a row: where its cells lie, and what they are -/
theorem RM.arg {w : World} {A : Option Addr} {ts : List Tr} {css : List (List Value)} (hR : Rd w 6 A ts.length css.flatten) (hs : RMs w ts css) {k : Nat} (hk : k < ts.length) :
    ∃ b o, A = some ⟨b, o, none⟩ ∧ b < w.heap.size ∧ ∃ Ab cb A' c' css', w.cell? ⟨b, o + k * 6, none⟩ = some (.int .i64 ts[k].r.1.1) ∧ w.cell? ⟨b, o + k * 6 + 1, none⟩ = some (.int .i64 ts[k].r.1.2) ∧ w.cell? ⟨b, o + k * 6 + 2, none⟩ = some (.int .i64 ts[k].r.2.1) ∧ w.cell? ⟨b, o + k * 6 + 3, none⟩ = some (.int .i64 ts[k].r.2.2) ∧
      w.cell? ⟨b, o + k * 6 + 4, none⟩ = some (.slice Ab ts[k].bs.length cb) ∧ w.cell? ⟨b, o + k * 6 + 5, none⟩ = some (.slice A' ts[k].ks.length c') ∧ ts[k].ks.length ≤ 1048576 ∧ Rd w 6 A' ts[k].ks.length (List.flatten css') ∧ RMs w ts[k].ks css' ∧ RM w ts[k] (nodc ts[k].r (.slice Ab ts[k].bs.length cb) (.slice A' ts[k].ks.length c')) := by
  obtain ⟨b, o, hA, hb, hc⟩ := hR.2 (by omega)
  obtain ⟨hl, hg⟩ := RMs.get hs
  obtain ⟨cs, h1, h2, h3⟩ := hg k hk
  refine ⟨b, o, hA, hb, ?_⟩
  generalize ts[k] = t at h2
  have h2' := h2
  obtain ⟨Ab, cb, A', c', css', rfl, a1, a2, a3⟩ := h2.form
  refine ⟨Ab, cb, A', c', css', hc _ _ (h3 0 (by decide)), ?_, ?_, ?_, ?_, ?_, a1, a2, a3, h2'⟩
  · have := hc _ _ (h3 1 (by decide)); rwa [← Nat.add_assoc] at this
  · have := hc _ _ (h3 2 (by decide)); rwa [← Nat.add_assoc] at this
  · have := hc _ _ (h3 3 (by decide)); rwa [← Nat.add_assoc] at this
  · have := hc _ _ (h3 4 (by decide)); rwa [← Nat.add_assoc] at this
  · have := hc _ _ (h3 5 (by decide)); rwa [← Nat.add_assoc] at this
theorem RMs.of {w : World} : ∀ {ts : List Tr} {css : List (List Value)}, css.length = ts.length → (∀ j (h1 : j < ts.length) (h2 : j < css.length), RM w ts[j] css[j]) → RMs w ts css
  | [], css, hl, _ => by rw [RMs]; exact List.eq_nil_of_length_eq_zero (by simpa using hl)
  | t :: ts, [], hl, _ => by simp at hl
  | t :: ts, p :: ps, hl, h => by
    rw [RMs]
    refine ⟨p, ps, rfl, h 0 (by simp) (by simp), RMs.of (by simpa using hl) fun j h1 h2 => ?_⟩
    exact h (j + 1) (by simpa using h1) (by simpa using h2)
theorem RMs.at {w : World} {ts : List Tr} {css : List (List Value)} (h : RMs w ts css) {j : Nat} (h1 : j < ts.length) (h2 : j < css.length) : RM w ts[j] css[j] := by
  obtain ⟨_, hg⟩ := RMs.get h
  obtain ⟨cs, a, b, _⟩ := hg j h1
  rw [List.getElem?_eq_getElem h2] at a
  cases a
  exact b
theorem RMs.part {w : World} {T : List Tr} {css : List (List Value)} (h : RMs w T css) (i m : Nat) : RMs w ((T.drop i).take m) ((css.drop i).take m) := by
  have hl := (RMs.get h).1
  refine RMs.of (by simp [hl]) fun j h1 h2 => ?_
  simp only [List.getElem_take, List.getElem_drop]
  exact h.at _ _
theorem flat_len : ∀ {css : List (List Value)}, (∀ cs ∈ css, cs.length = 6) → css.flatten.length = css.length * 6
  | [], _ => rfl
  | c :: css, h => by
    rw [List.flatten_cons, List.length_append, h c (by simp), flat_len (fun x hx => h x (by simp [hx])), List.length_cons]; omega
theorem RMs.six {w : World} {T : List Tr} {css : List (List Value)} (h : RMs w T css) : ∀ cs ∈ css, cs.length = 6 := by
  intro cs hcs
  obtain ⟨j, hj, rfl⟩ := List.getElem_of_mem hcs
  have hl := (RMs.get h).1
  obtain ⟨A, c, A', c', c2, he, _⟩ := (h.at (by omega) hj).form
  rw [he]; rfl
theorem flat_drop : ∀ (css : List (List Value)) (i : Nat), (∀ cs ∈ css, cs.length = 6) → css.flatten.drop (i * 6) = (css.drop i).flatten
  | _, 0, _ => by simp
  | [], i + 1, _ => by simp
  | c :: css, i + 1, h => by
    rw [List.flatten_cons, List.drop_append, h c (by simp), Nat.add_mul, Nat.one_mul, List.drop_eq_nil_of_le (by rw [h c (by simp)]; omega), List.nil_append, Nat.add_sub_cancel, flat_drop css i (fun x hx => h x (by simp [hx]))]
    rfl
theorem flat_take : ∀ (css : List (List Value)) (i : Nat), (∀ cs ∈ css, cs.length = 6) → css.flatten.take (i * 6) = (css.take i).flatten
  | _, 0, _ => by simp
  | [], i + 1, _ => by simp
  | c :: css, i + 1, h => by
    rw [List.flatten_cons, List.take_append, h c (by simp), Nat.add_mul, Nat.one_mul, List.take_of_length_le (by rw [h c (by simp)]; omega), Nat.add_sub_cancel, flat_take css i (fun x hx => h x (by simp [hx]))]
    rfl
theorem Rd.nodes {w : World} {n b o : Nat} {css : List (List Value)} (h : Rd w 6 (some ⟨b, o, none⟩) n css.flatten) (h6 : ∀ cs ∈ css, cs.length = 6) (i wd : Nat) (hi : i ≤ n) : Rd w 6 (some ⟨b, o + i * 6, none⟩) ((css.drop i).take wd).length ((css.drop i).take wd).flatten := by
  have hn : css.length = n := by have := h.1; rw [flat_len h6] at this; omega
  have := h.part i ((css.drop i).take wd).length (by simp; omega)
  rw [flat_drop css i h6, flat_take (css.drop i) _ (fun cs hcs => h6 cs (List.mem_of_mem_drop hcs))] at this
  rwa [take_self] at this
/-- a level of nodes, as a row of values: what was made reads so in every world that holds it and what it was made from -/
def LevR (T : List Tr) (Base : World → Prop) (w : World) (e : Ending) (w' : World) : Prop := ∃ A c css, e = .returned (.slice A T.length c) ∧ Ext w w' ∧ T.length ≤ c ∧ c ≤ 9223372036854775807 ∧
  ∀ X : World, w'.heap.size ≤ X.heap.size → (∀ k, w.heap.size ≤ k → k < w'.heap.size → X.heap[k]? = w'.heap[k]?) → Base X → Rd X 6 A T.length (List.flatten css) ∧ RMs X T css


theorem oneCell_nodc (r : Rct) (u v : Value) (hu : u.oneCell' = true) (hv : v.oneCell' = true) : ∀ z ∈ nodc r u v, z.oneCell' = true := by
  intro z hz
  simp [nodc] at hz
  rcases hz with rfl | rfl | rfl | rfl | rfl | rfl
  · rfl
  · rfl
  · rfl
  · rfl
  · exact hu
  · exact hv
theorem flat_snoc (css : List (List Value)) (c : List Value) : (css ++ [c]).flatten = css.flatten ++ c := by simp
def ndL (b o wd n c : Nat) (L : List Bxs) (i : Nat) : List Value := nodc (mkL ((L.drop i).take wd)).r (.slice (some ⟨b, o + i * 5, none⟩) (min wd (n - i)) (c - i)) (.slice none 0 0)
def ndN (b o wd n c : Nat) (L : List Tr) (i : Nat) : List Value := nodc (mkN ((L.drop i).take wd)).r (.slice none 0 0) (.slice (some ⟨b, o + i * 6, none⟩) (min wd (n - i)) (c - i))


end Go.Proofs.Ytahmkinppighkaa
