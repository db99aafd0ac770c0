/- The reference of packed trees: nodes as values, its leaves, its nodes above nodes. -/
import Derived.Test.YtgobmiahhmajdaaTrM
import Derived.Test.YtgobmiahhmajdaaTrE
import Derived.IntWalk
set_option linter.unusedSimpArgs false
set_option linter.unusedVariables false
namespace Go.Proofs.Ytgobmiahhmajdaa
open Go.RowKit


/-- the six cells of a node of the reference -/
def nodc (r : Rct) (u v : Value) : List Value := [.int .i64 r.1.1, .int .i64 r.1.2, .int .i64 r.2.1, .int .i64 r.2.2, u, v]
abbrev nodg (r : Rct) (u v : Value) : Value := .agg #[.int .i64 r.1.1, .int .i64 r.1.2, .int .i64 r.2.1, .int .i64 r.2.2, u, v]
mutual
/-- the cells are the node -/
def RM (w : World) : Tr → List Value → Prop
  | .lf r bs, cs => ∃ A c, cs = nodc r (.slice A bs.length c) (.slice none 0 0) ∧ bs.length ≤ 1048576 ∧ Rd w 5 A bs.length (bxl bs)
  | .nd r ks, cs => ∃ A c css, cs = nodc r (.slice none 0 0) (.slice A ks.length c) ∧ ks.length ≤ 1048576 ∧ Rd w 6 A ks.length (List.flatten css) ∧ RMs w ks css
def RMs (w : World) : List Tr → List (List Value) → Prop
  | [], css => css = []
  | t :: ts, css => ∃ cs css', css = cs :: css' ∧ RM w t cs ∧ RMs w ts css'
end
mutual
theorem RM.ext {w w' : World} (e : Ext w w') : ∀ {t : Tr} {cs : List Value}, RM w t cs → RM w' t cs
  | .lf r bs, cs, h => by
    rw [RM] at h ⊢
    obtain ⟨A, c, h1, h2, h3⟩ := h
    exact ⟨A, c, h1, h2, h3.ext e⟩
  | .nd r ks, cs, h => by
    rw [RM] at h ⊢
    obtain ⟨A, c, css, h1, h2, h3, h4⟩ := h
    exact ⟨A, c, css, h1, h2, h3.ext e, RMs.ext e h4⟩
theorem RMs.ext {w w' : World} (e : Ext w w') : ∀ {ts : List Tr} {css : List (List Value)}, RMs w ts css → RMs w' ts css
  | [], css, h => by rw [RMs] at h ⊢; exact h
  | t :: ts, css, h => by
    rw [RMs] at h ⊢
    obtain ⟨cs, css', h1, h2, h3⟩ := h
    exact ⟨cs, css', h1, RM.ext e h2, RMs.ext e h3⟩
end
/-- what a node's cells are -/
theorem RM.form {w : World} {t : Tr} {cs : List Value} (h : RM w t cs) : ∃ A c A' c' css, cs = nodc t.r (.slice A t.bs.length c) (.slice A' t.ks.length c') ∧ t.ks.length ≤ 1048576 ∧ Rd w 6 A' t.ks.length (List.flatten css) ∧ RMs w t.ks css := by
  cases t with
  | lf r bs =>
    rw [RM] at h
    obtain ⟨A, c, h1, h2, h3⟩ := h
    exact ⟨A, c, none, 0, [], h1, by simp [Tr.ks], Rd.nil, by simp [Tr.ks, RMs]⟩
  | nd r ks =>
    rw [RM] at h
    obtain ⟨A, c, css, h1, h2, h3, h4⟩ := h
    exact ⟨none, 0, A, c, css, h1, h2, h3, h4⟩
theorem RMs.get {w : World} : ∀ {ts : List Tr} {css : List (List Value)}, RMs w ts css → css.length = ts.length ∧ ∀ k (hk : k < ts.length), ∃ cs, css[k]? = some cs ∧ RM w ts[k] cs ∧ ∀ j, j < 6 → css.flatten[k * 6 + j]? = cs[j]?
  | [], css, h => by rw [RMs] at h; subst h; exact ⟨rfl, fun k hk => by simp at hk⟩
  | t :: ts, css, h => by
    rw [RMs] at h
    obtain ⟨cs, css', rfl, h2, h3⟩ := h
    have h4 := RMs.get h3
    have hl : cs.length = 6 := by obtain ⟨A, c, A', c', c2, rfl, _⟩ := h2.form; rfl
    refine ⟨by simp [h4.1], fun k hk => ?_⟩
    cases k with
    | zero => exact ⟨cs, rfl, h2, fun j hj => by simp [List.getElem?_append_left (show j < cs.length by omega)]⟩
    | succ k =>
      obtain ⟨cs', a, b, c⟩ := h4.2 k (by simpa using hk)
      refine ⟨cs', by simpa using a, b, fun j hj => ?_⟩
      rw [← c j hj, List.flatten_cons, List.getElem?_append_right (by omega)]
      congr 1
      omega
/-- the k-th node of a row: where its cells lie, and what they are -/
theorem RM.arg {w : World} {A : Option Addr} {ts : List Tr} {css : List (List Value)} (hR : Rd w 6 A ts.length css.flatten) (hs : RMs w ts css) {k : Nat} (hk : k < ts.length) :
    ∃ b o, A = some ⟨b, o, none⟩ ∧ b < w.heap.size ∧ ∃ Ab cb A' c' css', w.cell? ⟨b, o + k * 6, none⟩ = some (.int .i64 ts[k].r.1.1) ∧ w.cell? ⟨b, o + k * 6 + 1, none⟩ = some (.int .i64 ts[k].r.1.2) ∧ w.cell? ⟨b, o + k * 6 + 2, none⟩ = some (.int .i64 ts[k].r.2.1) ∧ w.cell? ⟨b, o + k * 6 + 3, none⟩ = some (.int .i64 ts[k].r.2.2) ∧
      w.cell? ⟨b, o + k * 6 + 4, none⟩ = some (.slice Ab ts[k].bs.length cb) ∧ w.cell? ⟨b, o + k * 6 + 5, none⟩ = some (.slice A' ts[k].ks.length c') ∧ ts[k].ks.length ≤ 1048576 ∧ Rd w 6 A' ts[k].ks.length (List.flatten css') ∧ RMs w ts[k].ks css' ∧ RM w ts[k] (nodc ts[k].r (.slice Ab ts[k].bs.length cb) (.slice A' ts[k].ks.length c')) := by
  obtain ⟨b, o, hA, hb, hc⟩ := hR.2 (by omega)
  obtain ⟨hl, hg⟩ := RMs.get hs
  obtain ⟨cs, h1, h2, h3⟩ := hg k hk
  refine ⟨b, o, hA, hb, ?_⟩
  generalize ts[k] = t at h2
  have h2' := h2
  obtain ⟨Ab, cb, A', c', css', rfl, a1, a2, a3⟩ := h2.form
  refine ⟨Ab, cb, A', c', css', hc _ _ (h3 0 (by decide)), ?_, ?_, ?_, ?_, ?_, a1, a2, a3, h2'⟩
  · have := hc _ _ (h3 1 (by decide)); rwa [← Nat.add_assoc] at this
  · have := hc _ _ (h3 2 (by decide)); rwa [← Nat.add_assoc] at this
  · have := hc _ _ (h3 3 (by decide)); rwa [← Nat.add_assoc] at this
  · have := hc _ _ (h3 4 (by decide)); rwa [← Nat.add_assoc] at this
  · have := hc _ _ (h3 5 (by decide)); rwa [← Nat.add_assoc] at this
theorem RMs.of {w : World} : ∀ {ts : List Tr} {css : List (List Value)}, css.length = ts.length → (∀ j (h1 : j < ts.length) (h2 : j < css.length), RM w ts[j] css[j]) → RMs w ts css
  | [], css, hl, _ => by rw [RMs]; exact List.eq_nil_of_length_eq_zero (by simpa using hl)
  | t :: ts, [], hl, _ => by simp at hl
  | t :: ts, p :: ps, hl, h => by
    rw [RMs]
    refine ⟨p, ps, rfl, h 0 (by simp) (by simp), RMs.of (by simpa using hl) fun j h1 h2 => ?_⟩
    exact h (j + 1) (by simpa using h1) (by simpa using h2)
theorem RMs.at {w : World} {ts : List Tr} {css : List (List Value)} (h : RMs w ts css) {j : Nat} (h1 : j < ts.length) (h2 : j < css.length) : RM w ts[j] css[j] := by
  obtain ⟨_, hg⟩ := RMs.get h
  obtain ⟨cs, a, b, _⟩ := hg j h1
  rw [List.getElem?_eq_getElem h2] at a
  cases a
  exact b
theorem RMs.part {w : World} {T : List Tr} {css : List (List Value)} (h : RMs w T css) (i m : Nat) : RMs w ((T.drop i).take m) ((css.drop i).take m) := by
  have hl := (RMs.get h).1
  refine RMs.of (by simp [hl]) fun j h1 h2 => ?_
  simp only [List.getElem_take, List.getElem_drop]
  exact h.at _ _
theorem flat_len : ∀ {css : List (List Value)}, (∀ cs ∈ css, cs.length = 6) → css.flatten.length = css.length * 6
  | [], _ => rfl
  | c :: css, h => by
    rw [List.flatten_cons, List.length_append, h c (by simp), flat_len (fun x hx => h x (by simp [hx])), List.length_cons]; omega
theorem RMs.six {w : World} {T : List Tr} {css : List (List Value)} (h : RMs w T css) : ∀ cs ∈ css, cs.length = 6 := by
  intro cs hcs
  obtain ⟨j, hj, rfl⟩ := List.getElem_of_mem hcs
  have hl := (RMs.get h).1
  obtain ⟨A, c, A', c', c2, he, _⟩ := (h.at (by omega) hj).form
  rw [he]; rfl
theorem flat_drop : ∀ (css : List (List Value)) (i : Nat), (∀ cs ∈ css, cs.length = 6) → css.flatten.drop (i * 6) = (css.drop i).flatten
  | _, 0, _ => by simp
  | [], i + 1, _ => by simp
  | c :: css, i + 1, h => by
    rw [List.flatten_cons, List.drop_append, h c (by simp), Nat.add_mul, Nat.one_mul, List.drop_eq_nil_of_le (by rw [h c (by simp)]; omega), List.nil_append, Nat.add_sub_cancel, flat_drop css i (fun x hx => h x (by simp [hx]))]
    rfl
theorem flat_take : ∀ (css : List (List Value)) (i : Nat), (∀ cs ∈ css, cs.length = 6) → css.flatten.take (i * 6) = (css.take i).flatten
  | _, 0, _ => by simp
  | [], i + 1, _ => by simp
  | c :: css, i + 1, h => by
    rw [List.flatten_cons, List.take_append, h c (by simp), Nat.add_mul, Nat.one_mul, List.take_of_length_le (by rw [h c (by simp)]; omega), Nat.add_sub_cancel, flat_take css i (fun x hx => h x (by simp [hx]))]
    rfl
theorem Rd.nodes {w : World} {n b o : Nat} {css : List (List Value)} (h : Rd w 6 (some ⟨b, o, none⟩) n css.flatten) (h6 : ∀ cs ∈ css, cs.length = 6) (i wd : Nat) (hi : i ≤ n) : Rd w 6 (some ⟨b, o + i * 6, none⟩) ((css.drop i).take wd).length ((css.drop i).take wd).flatten := by
  have hn : css.length = n := by have := h.1; rw [flat_len h6] at this; omega
  have := h.part i ((css.drop i).take wd).length (by simp; omega)
  rw [flat_drop css i h6, flat_take (css.drop i) _ (fun cs hcs => h6 cs (List.mem_of_mem_drop hcs))] at this
  rwa [take_self] at this
theorem elNodeR : El Try.prog 32 34 (.agg #[.int .i64 0, .int .i64 0, .int .i64 0, .int .i64 0, .slice none 0 0, .slice none 0 0]) 6 80 := ⟨Try.underlying32, info_parts (by kernel_rfl), rfl, by decide⟩
/-- a level of nodes, as a row of values: what was made reads so in every world that holds it and what it was made from -/
def LevR (T : List Tr) (Base : World → Prop) (w : World) (e : Ending) (w' : World) : Prop := ∃ A c css, e = .returned (.slice A T.length c) ∧ Ext w w' ∧ T.length ≤ c ∧ c ≤ 9223372036854775807 ∧
  ∀ X : World, w'.heap.size ≤ X.heap.size → (∀ k, w.heap.size ≤ k → k < w'.heap.size → X.heap[k]? = w'.heap[k]?) → Base X → Rd X 6 A T.length (List.flatten css) ∧ RMs X T css


theorem oneCell_nodc (r : Rct) (u v : Value) (hu : u.oneCell' = true) (hv : v.oneCell' = true) : ∀ z ∈ nodc r u v, z.oneCell' = true := by
  intro z hz
  simp [nodc] at hz
  rcases hz with rfl | rfl | rfl | rfl | rfl | rfl
  · rfl
  · rfl
  · rfl
  · rfl
  · exact hu
  · exact hv
theorem flat_snoc (css : List (List Value)) (c : List Value) : (css ++ [c]).flatten = css.flatten ++ c := by simp
def ndL (b o wd n c : Nat) (L : List Bxs) (i : Nat) : List Value := nodc (mkL ((L.drop i).take wd)).r (.slice (some ⟨b, o + i * 5, none⟩) (min wd (n - i)) (c - i)) (.slice none 0 0)
def ndN (b o wd n c : Nat) (L : List Tr) (i : Nat) : List Value := nodc (mkN ((L.drop i).take wd)).r (.slice none 0 0) (.slice (some ⟨b, o + i * 6, none⟩) (min wd (n - i)) (c - i))


set_option maxRecDepth 100000 in
set_option maxHeartbeats 16000000 in
theorem rleaves_any (b o n c wd : Nat) (hwd : 1 ≤ wd) (hw2 : wd ≤ 64) (hn0 : 1 ≤ n) (hn : n ≤ 1048576) (hc : n ≤ c) (hc2 : c ≤ 9223372036854775807) (w : World) (L : List Bxs) (hR : Rd w 5 (some ⟨b, o, none⟩) n (bxl L)) (hL : n = L.length) :
    Calls Try.prog 35 #[.slice (some ⟨b, o, none⟩) n c, .int .i64 wd] w (LevR (leavesF wd L) (fun X => Rd X 5 (some ⟨b, o, none⟩) n (bxl L)) w) := by
  have HL := Lib.hid hL
  clear hL
  go_enter Try.func35, Try.ntmps35
  go_wp2
  go_loopw [5, 6] (fun out i wr => ∃ (j : Nat) (x : Add) (css : List (List Value)), j ≤ nch wd n ∧ i = .int .i64 (j * wd : Nat) ∧ css.length = j ∧ Hid (css = (List.range j).map fun j => ndL b o wd n c L (j * wd)) ∧ wr = ext w x ∧ Own w x 34 6 out css.length css.flatten) (fun _ i _ => nch wd n * wd - (intOf i).toNat)
  case atStart =>
    obtain ⟨x, hx⟩ := (Ext.refl' w).get
    exact ⟨0, x, [], Nat.zero_le _, by simp, rfl, Lib.hid rfl, hx, own_nil _ _ _ _⟩
  case round =>
    obtain ⟨j, x, css, hj, rfl, hcl, HCS, rfl, hown⟩ := hrel
    have hjw : j * 1 ≤ j * wd := Nat.mul_le_mul_left _ hwd
    by_cases hlt : j < nch wd n
    · have hlt' : j * wd < n := (lt_nch hwd).1 hlt
      have hs1 : (j + 1) * wd = j * wd + wd := by rw [Nat.add_mul, Nat.one_mul]
      have hjm2 : (j + 1) * wd ≤ nch wd n * wd := Nat.mul_le_mul_right _ (by omega)
      have HMS : Hid (j * wd + wd ≤ nch wd n * wd) := Lib.hid (by omega)
      have HS1 := Lib.hid hs1
      have hcl2 : css.length ≤ 1048576 := by omega
      clear hs1 hjm2
      generalize hi : j * wd = i at hlt' HS1 HMS
      have HI := Lib.hid hi
      clear hi hjw
      obtain ⟨b', o', he, hb, d0, d1, d2, d3, d4⟩ := hR.box HL.out (k := i) (by have := HL.out; omega)
      simp only [Option.some.injEq, Addr.mk.injEq, and_true] at he
      obtain ⟨rfl, rfl⟩ := he
      have hC := Lib.hid ((hR.ext (Ext.ex w x)).boxes HL.out i wd (by omega))
      have hCl := chunk_len L i wd
      have hcz : ∀ h : 0 < ((L.drop i).take wd).length, ((L.drop i).take wd)[0].1 = (L[i]'(by have := HL.out; omega)).1 := fun h => by simp
      generalize hcc : (L[i]'(by have := HL.out; omega)).1 = c0 at d0 d1 d2 d3 hcz
      clear hcc d4
      generalize hCC : (L.drop i).take wd = C at hC hCl hcz
      have HCC := Lib.hid hCC
      clear hCC
      have hC0 := Lib.hid (show 0 < C.length by have := HL.out; omega)
      have HC0 : Hid ((C[0]'hC0.out).1 = c0) := Lib.hid (hcz hC0.out)
      have HCl := Lib.hid hCl
      clear hCl hcz
      rcases (show i + wd ≤ n ∨ n < i + wd from by omega) with hm | hm
      · have HEC : Hid (wd = C.length) := Lib.hid (by have := HCl.out; have := HL.out; omega)
        have e1 : IntKind.i64.wrap ((i : Int) + wd) = (i : Int) + wd := by rw [IntKind.wrap_i64]; omega
        have e2 : 0 ≤ (i : Int) + wd := by omega
        have e3 : ((i : Int) + wd).toNat = i + wd := by omega
        have e4 : min ((i : Int) + wd) (n : Int) = (i : Int) + wd := by omega
        have e5 : (i : Int) + wd ≤ c := by omega
        have e6 : ¬ c = i := by omega
        go_wp2
        refine wp_region_held_drew (S := fun _ => True) (by kernel_rfl) trivial (fun hHeld => ?_)
        refine wpAnyH_take (i := 0) (oi := ?oi1) (v := ?v1) ?hi1 (by kernel_rfl) (by kernel_rfl) (by kernel_rfl) ?hQ1 ?hy1 (by assumption) ?_
        case hi1 => (simp only [List.getElem?_toArray, List.getElem?_cons_succ, List.getElem?_cons_zero]; rfl)
        case hQ1 => exact fun _ _ _ h => h
        case hy1 => (refine Or.inl ⟨by rfl, ?_⟩; intro wq hSw; (try dsimp only at hSw); go_simp; (try with_reducible rfl))
        (try simp only [Act.put, List.setIfInBounds_toArray, List.set_cons_zero, List.set_cons_succ])
        refine wpAnyH_take (i := 1) (oi := ?oi2) (v := ?v2) ?hi2 (by kernel_rfl) (by kernel_rfl) (by kernel_rfl) ?hQ2 ?hy2 (by assumption) ?_
        case hi2 => (simp only [List.getElem?_toArray, List.getElem?_cons_succ, List.getElem?_cons_zero]; rfl)
        case hQ2 => exact fun _ _ _ h => h
        case hy2 => (refine Or.inl ⟨by rfl, ?_⟩; intro wq hSw; (try dsimp only at hSw); go_simp; (try with_reducible rfl))
        (try simp only [Act.put, List.setIfInBounds_toArray, List.set_cons_zero, List.set_cons_succ])
        refine wpAnyH_take (i := 2) (oi := ?oi3) (v := ?v3) ?hi3 (by kernel_rfl) (by kernel_rfl) (by kernel_rfl) ?hQ3 ?hy3 (by assumption) ?_
        case hi3 => (simp only [List.getElem?_toArray, List.getElem?_cons_succ, List.getElem?_cons_zero]; rfl)
        case hQ3 => exact fun _ _ _ h => h
        case hy3 => (refine Or.inl ⟨by rfl, ?_⟩; intro wq hSw; (try dsimp only at hSw); go_simp; (try with_reducible rfl))
        (try simp only [Act.put, List.setIfInBounds_toArray, List.set_cons_zero, List.set_cons_succ])
        refine wpAnyH_take (i := 3) (oi := ?oi4) (v := ?v4) ?hi4 (by kernel_rfl) (by kernel_rfl) (by kernel_rfl) ?hQ4 ?hy4 (by assumption) ?_
        case hi4 => (simp only [List.getElem?_toArray, List.getElem?_cons_succ, List.getElem?_cons_zero]; rfl)
        case hQ4 => exact fun _ _ _ h => h
        case hy4 => (refine Or.inl ⟨by rfl, ?_⟩; intro wq hSw; (try dsimp only at hSw); go_simp; (try with_reducible rfl))
        (try simp only [Act.put, List.setIfInBounds_toArray, List.set_cons_zero, List.set_cons_succ])
        refine wpAnyH_take (i := 5) (oi := ?oi5) (v := ?v5) ?hi5 (by kernel_rfl) (by kernel_rfl) (by kernel_rfl) ?hQ5 ?hy5 (by assumption) ?_
        case hi5 => (simp only [List.getElem?_toArray, List.getElem?_cons_succ, List.getElem?_cons_zero]; rfl)
        case hQ5 => exact fun _ _ _ h => h
        case hy5 => (refine Or.inl ⟨by rfl, ?_⟩; intro wq hSw; (try dsimp only at hSw); go_simp; (try with_reducible rfl))
        (try simp only [Act.put, List.setIfInBounds_toArray, List.set_cons_zero, List.set_cons_succ])
        refine wpAnyH_take (i := 6) (oi := ?oi6) (v := ?v6) ?hi6 (by kernel_rfl) (by kernel_rfl) (by kernel_rfl) ?hQ6 ?hy6 (by assumption) ?_
        case hi6 => (simp only [List.getElem?_toArray, List.getElem?_cons_succ, List.getElem?_cons_zero]; rfl)
        case hQ6 => exact fun _ _ _ h => h
        case hy6 => (refine Or.inl ⟨by rfl, ?_⟩; intro wq hSw; (try dsimp only at hSw); go_simp; (try with_reducible rfl))
        (try simp only [Act.put, List.setIfInBounds_toArray, List.set_cons_zero, List.set_cons_succ])
        refine wpAnyH_take (i := 7) (oi := ?oi7) (v := ?v7) ?hi7 (by kernel_rfl) (by kernel_rfl) (by kernel_rfl) ?hQ7 ?hy7 (by assumption) ?_
        case hi7 => (simp only [List.getElem?_toArray, List.getElem?_cons_succ, List.getElem?_cons_zero]; rfl)
        case hQ7 => exact fun _ _ _ h => h
        case hy7 => (refine Or.inl ⟨by rfl, ?_⟩; intro wq hSw; (try dsimp only at hSw); go_simp; (try with_reducible rfl))
        (try simp only [Act.put, List.setIfInBounds_toArray, List.set_cons_zero, List.set_cons_succ])
        refine wpAnyH_take (i := 8) (oi := ?oi8) (v := ?v8) ?hi8 (by kernel_rfl) (by kernel_rfl) (by kernel_rfl) ?hQ8 ?hy8 (by assumption) ?_
        case hi8 => (simp only [List.getElem?_toArray, List.getElem?_cons_succ, List.getElem?_cons_zero]; rfl)
        case hQ8 => exact fun _ _ _ h => h
        case hy8 => (refine Or.inl ⟨by rfl, ?_⟩; intro wq hSw; (try dsimp only at hSw); go_simp; (try with_reducible rfl))
        (try simp only [Act.put, List.setIfInBounds_toArray, List.set_cons_zero, List.set_cons_succ])
        refine wpAnyH_take (i := 9) (oi := ?oi9) (v := ?v9) ?hi9 (by kernel_rfl) (by kernel_rfl) (by kernel_rfl) ?hQ9 ?hy9 (by assumption) ?_
        case hi9 => (simp only [List.getElem?_toArray, List.getElem?_cons_succ, List.getElem?_cons_zero]; rfl)
        case hQ9 => exact fun _ _ _ h => h
        case hy9 => (refine Or.inl ⟨by rfl, ?_⟩; intro wq hSw; (try dsimp only at hSw); go_simp; (try with_reducible rfl))
        (try simp only [Act.put, List.setIfInBounds_toArray, List.set_cons_zero, List.set_cons_succ])
        refine wpAnyH_take (i := 10) (oi := ?oi10) (v := ?v10) ?hi10 (by kernel_rfl) (by kernel_rfl) (by kernel_rfl) ?hQ10 ?hy10 (by assumption) ?_
        case hi10 => (simp only [List.getElem?_toArray, List.getElem?_cons_succ, List.getElem?_cons_zero]; rfl)
        case hQ10 => exact fun _ _ _ h => h
        case hy10 => (refine Or.inl ⟨by rfl, ?_⟩; intro wq hSw; (try dsimp only at hSw); go_simp; (try with_reducible rfl))
        (try simp only [Act.put, List.setIfInBounds_toArray, List.set_cons_zero, List.set_cons_succ])
        refine wpAnyH_take (i := 11) (oi := ?oi11) (v := ?v11) ?hi11 (by kernel_rfl) (by kernel_rfl) (by kernel_rfl) ?hQ11 ?hy11 (by assumption) ?_
        case hi11 => (simp only [List.getElem?_toArray, List.getElem?_cons_succ, List.getElem?_cons_zero]; rfl)
        case hQ11 => exact fun _ _ _ h => h
        case hy11 => (refine Or.inl ⟨by rfl, ?_⟩; intro wq hSw; (try dsimp only at hSw); go_simp; (try with_reducible rfl))
        (try simp only [Act.put, List.setIfInBounds_toArray, List.set_cons_zero, List.set_cons_succ])
        refine wpAnyH_take (i := 12) (oi := ?oi12) (v := ?v12) ?hi12 (by kernel_rfl) (by kernel_rfl) (by kernel_rfl) ?hQ12 ?hy12 (by assumption) ?_
        case hi12 => (simp only [List.getElem?_toArray, List.getElem?_cons_succ, List.getElem?_cons_zero]; rfl)
        case hQ12 => exact fun _ _ _ h => h
        case hy12 => (refine Or.inl ⟨by rfl, ?_⟩; intro wq hSw; (try dsimp only at hSw); go_simp; (try with_reducible rfl))
        (try simp only [Act.put, List.setIfInBounds_toArray, List.set_cons_zero, List.set_cons_succ])
        refine wpAnyH_take (i := 13) (oi := ?oi13) (v := ?v13) ?hi13 (by kernel_rfl) (by kernel_rfl) (by kernel_rfl) ?hQ13 ?hy13 (by assumption) ?_
        case hi13 => (simp only [List.getElem?_toArray, List.getElem?_cons_succ, List.getElem?_cons_zero]; rfl)
        case hQ13 => exact fun _ _ _ h => h
        case hy13 => (refine Or.inl ⟨by rfl, ?_⟩; intro wq hSw; (try dsimp only at hSw); go_simp; (try with_reducible rfl))
        (try simp only [Act.put, List.setIfInBounds_toArray, List.set_cons_zero, List.set_cons_succ])
        refine wpAnyH_ready (rs := [4, 15]) (by kernel_rfl) (by simp) ?_
        refine AllReadyH.cons (o := ?oi14) ?hi14 ?ti14 ?ri14
        case hi14 => (simp only [List.getElem?_toArray, List.getElem?_cons_succ, List.getElem?_cons_zero]; rfl)
        case ti14 =>
          intro KQ hKQ
          go_simp
          (try simp [go_sem, ↓IntWalk.iteOmega, *])
          refine hKQ.out _ _ (by trivial) (fun hHeld2 => ?_)
          clear hHeld hKQ KQ; have hHeld := hHeld2; clear hHeld2
          (try simp only [Act.put, List.setIfInBounds_toArray, List.set_cons_zero, List.set_cons_succ])
          refine wpAnyH_take (i := 14) (oi := ?oi15) (v := ?v15) ?hi15 (by kernel_rfl) (by kernel_rfl) (by kernel_rfl) ?hQ15 ?hy15 (by assumption) ?_
          case hi15 => (simp only [List.getElem?_toArray, List.getElem?_cons_succ, List.getElem?_cons_zero]; rfl)
          case hQ15 => exact fun _ _ _ h => h
          case hy15 => (refine Or.inl ⟨by rfl, ?_⟩; intro wq hSw; (try dsimp only at hSw); go_simp; (try with_reducible rfl))
          (try simp only [Act.put, List.setIfInBounds_toArray, List.set_cons_zero, List.set_cons_succ])
          refine wpAnyH_ready (rs := [15]) (by kernel_rfl) (by simp) ?_
          refine AllReadyH.cons (o := ?oi16) ?hi16 ?ti16 AllReadyH.nil
          case hi16 => (simp only [List.getElem?_toArray, List.getElem?_cons_succ, List.getElem?_cons_zero]; rfl)
          case ti16 =>
            intro KQ hKQ
            go_simp
            refine hKQ.out _ _ (by trivial) (fun hHeld2 => ?_)
            clear hHeld hKQ KQ; have hHeld := hHeld2; clear hHeld2
            (try simp only [Act.put, List.setIfInBounds_toArray, List.set_cons_zero, List.set_cons_succ])
            refine wpAnyH_ready (rs := [16]) (by kernel_rfl) (by simp) ?_
            refine AllReadyH.cons (o := ?oi17) ?hi17 ?ti17 AllReadyH.nil
            case hi17 => (simp only [List.getElem?_toArray, List.getElem?_cons_succ, List.getElem?_cons_zero]; rfl)
            case ti17 =>
              intro KQ hKQ
              go_simp
              (try simp [go_sem, ↓IntWalk.iteOmega, *])
              refine hKQ.out _ _ (by trivial) (fun hHeld2 => ?_)
              clear hHeld hKQ KQ; have hHeld := hHeld2; clear hHeld2
              (try simp only [Act.put, List.setIfInBounds_toArray, List.set_cons_zero, List.set_cons_succ])
              refine wpAnyH_done (by kernel_rfl) ?_ _
              go_wp2
              go_loopw [35] (fun q wr => ∃ k : Nat, k ≤ wd ∧ q = .int .i64 k ∧ Ext ((ext w x).alloc (.cells #[.int .i64 (rL c0 C k).1.1, .int .i64 (rL c0 C k).1.2, .int .i64 (rL c0 C k).2.1, .int .i64 (rL c0 C k).2.2, .slice (some ⟨b, o + i * 5, none⟩) wd (c - i), .slice none 0 0] 34)) wr) (fun q _ => wd - (intOf q).toNat)
              case atStart => exact ⟨0, Nat.zero_le _, rfl, Ext.dr (Ext.refl' _)⟩
              case round =>
                obtain ⟨k, hk, rfl, hE⟩ := hrel
                obtain ⟨x2, rfl⟩ := hE.get
                clear hE
                by_cases hlt2 : k < wd
                · have hltC : k < C.length := by have := HEC.out; omega
                  obtain ⟨b', o', he, _, f0, f1, f2, f3, f4⟩ := hC.out.box rfl hltC
                  simp only [Option.some.injEq, Addr.mk.injEq, and_true] at he
                  obtain ⟨rfl, rfl⟩ := he
                  have HJ := Lib.hid (rL_succ c0 C hltC)
                  generalize C[k] = ck at f0 f1 f2 f3 f4 HJ
                  generalize rL c0 C k = rk at HJ ⊢
                  have HJN := Lib.hid (fun w => around_any rk ck.1 w)
                  go_wp2_with (go_at_call 37; refine (HJN.out _).mono ?_; rintro e w1 ⟨rfl, hb1⟩; obtain ⟨x1, rfl⟩ := hb1.get; clear hb1)
                  go_roundw
                  case rel => exact ⟨k + 1, by omega, by go_num, by rw [HJ.out]; exact (by repeat (first | exact Ext.refl' _ | assumption | apply Ext.ex' | apply Ext.al | apply Ext.drN | apply Ext.dr))⟩
                  case measure => simp [intOf]; omega
                · have HE := Lib.hid (rL_end hC0.out (show k = C.length by have := HEC.out; omega))
                  rw [HC0.out] at HE
                  generalize rL c0 C k = rk at HE ⊢
                  have HNW : Hid ((nodc rk (.slice (some ⟨b, o + i * 5, none⟩) wd (c - i)) (.slice none 0 0)) = ndL b o wd n c L i) := Lib.hid (by unfold ndL; rw [HCC.out, ← HE.out, show min wd (n - i) = wd from by omega])
                  go_wp2_with (at_builtin; refine wpList_app _ rfl (.tmp 46) (.tmp 48) rfl elNodeR w (by repeat (first | exact Ext.refl' _ | assumption | apply Ext.ex' | apply Ext.al | apply Ext.drN | apply Ext.dr)) _ _ _ rfl (by repeat (first | exact hown | apply World.ownsRow.alloc | apply own_ext)) _ 1 1 (nodc rk (.slice (some ⟨b, o + i * 5, none⟩) wd (c - i)) (.slice none 0 0)) rfl (Rd.lit _ #[.int .i64 rk.1.1, .int .i64 rk.1.2, .int .i64 rk.2.1, .int .i64 rk.2.2, .slice (some ⟨b, o + i * 5, none⟩) wd (c - i), .slice none 0 0] _ 1 6 rfl (by simp [size_ext])) (oneCell_nodc _ _ _ rfl rfl) (by unfold maxLen; omega) (by omega) ?_; intro v' x' hown' _)
                  go_roundw
                  case rel => exact ⟨j + 1, x', css ++ [ndL b o wd n c L i], by omega, by rw [HS1.out]; go_num, by simp [hcl], Lib.hid (by rw [HCS.out, List.range_succ, List.map_append]; simp [HI.out]), rfl, by rw [flat_snoc, ← HNW.out]; simpa using hown'⟩
                  case measure => (have hms := HMS.out; generalize nch wd n * wd = M at hms ⊢; simp [intOf]; omega)
        case ri14 =>
          refine AllReadyH.cons (o := ?oi18) ?hi18 ?ti18 AllReadyH.nil
          case hi18 => (simp only [List.getElem?_toArray, List.getElem?_cons_succ, List.getElem?_cons_zero]; rfl)
          case ti18 =>
            intro KQ hKQ
            go_simp
            refine hKQ.out _ _ (by trivial) (fun hHeld2 => ?_)
            clear hHeld hKQ KQ; have hHeld := hHeld2; clear hHeld2
            (try simp only [Act.put, List.setIfInBounds_toArray, List.set_cons_zero, List.set_cons_succ])
            refine wpAnyH_ready (rs := [4]) (by kernel_rfl) (by simp) ?_
            refine AllReadyH.cons (o := ?oi19) ?hi19 ?ti19 AllReadyH.nil
            case hi19 => (simp only [List.getElem?_toArray, List.getElem?_cons_succ, List.getElem?_cons_zero]; rfl)
            case ti19 =>
              intro KQ hKQ
              go_simp
              (try simp [go_sem, ↓IntWalk.iteOmega, *])
              refine hKQ.out _ _ (by trivial) (fun hHeld2 => ?_)
              clear hHeld hKQ KQ; have hHeld := hHeld2; clear hHeld2
              (try simp only [Act.put, List.setIfInBounds_toArray, List.set_cons_zero, List.set_cons_succ])
              refine wpAnyH_take (i := 14) (oi := ?oi20) (v := ?v20) ?hi20 (by kernel_rfl) (by kernel_rfl) (by kernel_rfl) ?hQ20 ?hy20 (by assumption) ?_
              case hi20 => (simp only [List.getElem?_toArray, List.getElem?_cons_succ, List.getElem?_cons_zero]; rfl)
              case hQ20 => exact fun _ _ _ h => h
              case hy20 => (refine Or.inl ⟨by rfl, ?_⟩; intro wq hSw; (try dsimp only at hSw); go_simp; (try with_reducible rfl))
              (try simp only [Act.put, List.setIfInBounds_toArray, List.set_cons_zero, List.set_cons_succ])
              refine wpAnyH_ready (rs := [16]) (by kernel_rfl) (by simp) ?_
              refine AllReadyH.cons (o := ?oi21) ?hi21 ?ti21 AllReadyH.nil
              case hi21 => (simp only [List.getElem?_toArray, List.getElem?_cons_succ, List.getElem?_cons_zero]; rfl)
              case ti21 =>
                intro KQ hKQ
                go_simp
                (try simp [go_sem, ↓IntWalk.iteOmega, *])
                refine hKQ.out _ _ (by trivial) (fun hHeld2 => ?_)
                clear hHeld hKQ KQ; have hHeld := hHeld2; clear hHeld2
                (try simp only [Act.put, List.setIfInBounds_toArray, List.set_cons_zero, List.set_cons_succ])
                refine wpAnyH_done (by kernel_rfl) ?_ _
                go_wp2
                go_loopw [35] (fun q wr => ∃ k : Nat, k ≤ wd ∧ q = .int .i64 k ∧ Ext ((ext w x).alloc (.cells #[.int .i64 (rL c0 C k).1.1, .int .i64 (rL c0 C k).1.2, .int .i64 (rL c0 C k).2.1, .int .i64 (rL c0 C k).2.2, .slice (some ⟨b, o + i * 5, none⟩) wd (c - i), .slice none 0 0] 34)) wr) (fun q _ => wd - (intOf q).toNat)
                case atStart => exact ⟨0, Nat.zero_le _, rfl, Ext.dr (Ext.refl' _)⟩
                case round =>
                  obtain ⟨k, hk, rfl, hE⟩ := hrel
                  obtain ⟨x2, rfl⟩ := hE.get
                  clear hE
                  by_cases hlt2 : k < wd
                  · have hltC : k < C.length := by have := HEC.out; omega
                    obtain ⟨b', o', he, _, f0, f1, f2, f3, f4⟩ := hC.out.box rfl hltC
                    simp only [Option.some.injEq, Addr.mk.injEq, and_true] at he
                    obtain ⟨rfl, rfl⟩ := he
                    have HJ := Lib.hid (rL_succ c0 C hltC)
                    generalize C[k] = ck at f0 f1 f2 f3 f4 HJ
                    generalize rL c0 C k = rk at HJ ⊢
                    have HJN := Lib.hid (fun w => around_any rk ck.1 w)
                    go_wp2_with (go_at_call 37; refine (HJN.out _).mono ?_; rintro e w1 ⟨rfl, hb1⟩; obtain ⟨x1, rfl⟩ := hb1.get; clear hb1)
                    go_roundw
                    case rel => exact ⟨k + 1, by omega, by go_num, by rw [HJ.out]; exact (by repeat (first | exact Ext.refl' _ | assumption | apply Ext.ex' | apply Ext.al | apply Ext.drN | apply Ext.dr))⟩
                    case measure => simp [intOf]; omega
                  · have HE := Lib.hid (rL_end hC0.out (show k = C.length by have := HEC.out; omega))
                    rw [HC0.out] at HE
                    generalize rL c0 C k = rk at HE ⊢
                    have HNW : Hid ((nodc rk (.slice (some ⟨b, o + i * 5, none⟩) wd (c - i)) (.slice none 0 0)) = ndL b o wd n c L i) := Lib.hid (by unfold ndL; rw [HCC.out, ← HE.out, show min wd (n - i) = wd from by omega])
                    go_wp2_with (at_builtin; refine wpList_app _ rfl (.tmp 46) (.tmp 48) rfl elNodeR w (by repeat (first | exact Ext.refl' _ | assumption | apply Ext.ex' | apply Ext.al | apply Ext.drN | apply Ext.dr)) _ _ _ rfl (by repeat (first | exact hown | apply World.ownsRow.alloc | apply own_ext)) _ 1 1 (nodc rk (.slice (some ⟨b, o + i * 5, none⟩) wd (c - i)) (.slice none 0 0)) rfl (Rd.lit _ #[.int .i64 rk.1.1, .int .i64 rk.1.2, .int .i64 rk.2.1, .int .i64 rk.2.2, .slice (some ⟨b, o + i * 5, none⟩) wd (c - i), .slice none 0 0] _ 1 6 rfl (by simp [size_ext])) (oneCell_nodc _ _ _ rfl rfl) (by unfold maxLen; omega) (by omega) ?_; intro v' x' hown' _)
                    go_roundw
                    case rel => exact ⟨j + 1, x', css ++ [ndL b o wd n c L i], by omega, by rw [HS1.out]; go_num, by simp [hcl], Lib.hid (by rw [HCS.out, List.range_succ, List.map_append]; simp [HI.out]), rfl, by rw [flat_snoc, ← HNW.out]; simpa using hown'⟩
                    case measure => (have hms := HMS.out; generalize nch wd n * wd = M at hms ⊢; simp [intOf]; omega)
      · have HEC : Hid ((n - i) = C.length) := Lib.hid (by have := HCl.out; have := HL.out; omega)
        have e1 : IntKind.i64.wrap ((i : Int) + wd) = (i : Int) + wd := by rw [IntKind.wrap_i64]; omega
        have e2 : 0 ≤ (i : Int) + wd := by omega
        have e4 : min ((i : Int) + wd) (n : Int) = (n : Int) := by omega
        have e5 : (n : Int) ≤ c := by omega
        have e6 : ¬ c = i := by omega
        have e7 : i ≤ n := by omega
        go_wp2
        refine wp_region_held_drew (S := fun _ => True) (by kernel_rfl) trivial (fun hHeld => ?_)
        refine wpAnyH_take (i := 0) (oi := ?oi301) (v := ?v301) ?hi301 (by kernel_rfl) (by kernel_rfl) (by kernel_rfl) ?hQ301 ?hy301 (by assumption) ?_
        case hi301 => (simp only [List.getElem?_toArray, List.getElem?_cons_succ, List.getElem?_cons_zero]; rfl)
        case hQ301 => exact fun _ _ _ h => h
        case hy301 => (refine Or.inl ⟨by rfl, ?_⟩; intro wq hSw; (try dsimp only at hSw); go_simp; (try with_reducible rfl))
        (try simp only [Act.put, List.setIfInBounds_toArray, List.set_cons_zero, List.set_cons_succ])
        refine wpAnyH_take (i := 1) (oi := ?oi302) (v := ?v302) ?hi302 (by kernel_rfl) (by kernel_rfl) (by kernel_rfl) ?hQ302 ?hy302 (by assumption) ?_
        case hi302 => (simp only [List.getElem?_toArray, List.getElem?_cons_succ, List.getElem?_cons_zero]; rfl)
        case hQ302 => exact fun _ _ _ h => h
        case hy302 => (refine Or.inl ⟨by rfl, ?_⟩; intro wq hSw; (try dsimp only at hSw); go_simp; (try with_reducible rfl))
        (try simp only [Act.put, List.setIfInBounds_toArray, List.set_cons_zero, List.set_cons_succ])
        refine wpAnyH_take (i := 2) (oi := ?oi303) (v := ?v303) ?hi303 (by kernel_rfl) (by kernel_rfl) (by kernel_rfl) ?hQ303 ?hy303 (by assumption) ?_
        case hi303 => (simp only [List.getElem?_toArray, List.getElem?_cons_succ, List.getElem?_cons_zero]; rfl)
        case hQ303 => exact fun _ _ _ h => h
        case hy303 => (refine Or.inl ⟨by rfl, ?_⟩; intro wq hSw; (try dsimp only at hSw); go_simp; (try with_reducible rfl))
        (try simp only [Act.put, List.setIfInBounds_toArray, List.set_cons_zero, List.set_cons_succ])
        refine wpAnyH_take (i := 3) (oi := ?oi304) (v := ?v304) ?hi304 (by kernel_rfl) (by kernel_rfl) (by kernel_rfl) ?hQ304 ?hy304 (by assumption) ?_
        case hi304 => (simp only [List.getElem?_toArray, List.getElem?_cons_succ, List.getElem?_cons_zero]; rfl)
        case hQ304 => exact fun _ _ _ h => h
        case hy304 => (refine Or.inl ⟨by rfl, ?_⟩; intro wq hSw; (try dsimp only at hSw); go_simp; (try with_reducible rfl))
        (try simp only [Act.put, List.setIfInBounds_toArray, List.set_cons_zero, List.set_cons_succ])
        refine wpAnyH_take (i := 5) (oi := ?oi305) (v := ?v305) ?hi305 (by kernel_rfl) (by kernel_rfl) (by kernel_rfl) ?hQ305 ?hy305 (by assumption) ?_
        case hi305 => (simp only [List.getElem?_toArray, List.getElem?_cons_succ, List.getElem?_cons_zero]; rfl)
        case hQ305 => exact fun _ _ _ h => h
        case hy305 => (refine Or.inl ⟨by rfl, ?_⟩; intro wq hSw; (try dsimp only at hSw); go_simp; (try with_reducible rfl))
        (try simp only [Act.put, List.setIfInBounds_toArray, List.set_cons_zero, List.set_cons_succ])
        refine wpAnyH_take (i := 6) (oi := ?oi306) (v := ?v306) ?hi306 (by kernel_rfl) (by kernel_rfl) (by kernel_rfl) ?hQ306 ?hy306 (by assumption) ?_
        case hi306 => (simp only [List.getElem?_toArray, List.getElem?_cons_succ, List.getElem?_cons_zero]; rfl)
        case hQ306 => exact fun _ _ _ h => h
        case hy306 => (refine Or.inl ⟨by rfl, ?_⟩; intro wq hSw; (try dsimp only at hSw); go_simp; (try with_reducible rfl))
        (try simp only [Act.put, List.setIfInBounds_toArray, List.set_cons_zero, List.set_cons_succ])
        refine wpAnyH_take (i := 7) (oi := ?oi307) (v := ?v307) ?hi307 (by kernel_rfl) (by kernel_rfl) (by kernel_rfl) ?hQ307 ?hy307 (by assumption) ?_
        case hi307 => (simp only [List.getElem?_toArray, List.getElem?_cons_succ, List.getElem?_cons_zero]; rfl)
        case hQ307 => exact fun _ _ _ h => h
        case hy307 => (refine Or.inl ⟨by rfl, ?_⟩; intro wq hSw; (try dsimp only at hSw); go_simp; (try with_reducible rfl))
        (try simp only [Act.put, List.setIfInBounds_toArray, List.set_cons_zero, List.set_cons_succ])
        refine wpAnyH_take (i := 8) (oi := ?oi308) (v := ?v308) ?hi308 (by kernel_rfl) (by kernel_rfl) (by kernel_rfl) ?hQ308 ?hy308 (by assumption) ?_
        case hi308 => (simp only [List.getElem?_toArray, List.getElem?_cons_succ, List.getElem?_cons_zero]; rfl)
        case hQ308 => exact fun _ _ _ h => h
        case hy308 => (refine Or.inl ⟨by rfl, ?_⟩; intro wq hSw; (try dsimp only at hSw); go_simp; (try with_reducible rfl))
        (try simp only [Act.put, List.setIfInBounds_toArray, List.set_cons_zero, List.set_cons_succ])
        refine wpAnyH_take (i := 9) (oi := ?oi309) (v := ?v309) ?hi309 (by kernel_rfl) (by kernel_rfl) (by kernel_rfl) ?hQ309 ?hy309 (by assumption) ?_
        case hi309 => (simp only [List.getElem?_toArray, List.getElem?_cons_succ, List.getElem?_cons_zero]; rfl)
        case hQ309 => exact fun _ _ _ h => h
        case hy309 => (refine Or.inl ⟨by rfl, ?_⟩; intro wq hSw; (try dsimp only at hSw); go_simp; (try with_reducible rfl))
        (try simp only [Act.put, List.setIfInBounds_toArray, List.set_cons_zero, List.set_cons_succ])
        refine wpAnyH_take (i := 10) (oi := ?oi310) (v := ?v310) ?hi310 (by kernel_rfl) (by kernel_rfl) (by kernel_rfl) ?hQ310 ?hy310 (by assumption) ?_
        case hi310 => (simp only [List.getElem?_toArray, List.getElem?_cons_succ, List.getElem?_cons_zero]; rfl)
        case hQ310 => exact fun _ _ _ h => h
        case hy310 => (refine Or.inl ⟨by rfl, ?_⟩; intro wq hSw; (try dsimp only at hSw); go_simp; (try with_reducible rfl))
        (try simp only [Act.put, List.setIfInBounds_toArray, List.set_cons_zero, List.set_cons_succ])
        refine wpAnyH_take (i := 11) (oi := ?oi311) (v := ?v311) ?hi311 (by kernel_rfl) (by kernel_rfl) (by kernel_rfl) ?hQ311 ?hy311 (by assumption) ?_
        case hi311 => (simp only [List.getElem?_toArray, List.getElem?_cons_succ, List.getElem?_cons_zero]; rfl)
        case hQ311 => exact fun _ _ _ h => h
        case hy311 => (refine Or.inl ⟨by rfl, ?_⟩; intro wq hSw; (try dsimp only at hSw); go_simp; (try with_reducible rfl))
        (try simp only [Act.put, List.setIfInBounds_toArray, List.set_cons_zero, List.set_cons_succ])
        refine wpAnyH_take (i := 12) (oi := ?oi312) (v := ?v312) ?hi312 (by kernel_rfl) (by kernel_rfl) (by kernel_rfl) ?hQ312 ?hy312 (by assumption) ?_
        case hi312 => (simp only [List.getElem?_toArray, List.getElem?_cons_succ, List.getElem?_cons_zero]; rfl)
        case hQ312 => exact fun _ _ _ h => h
        case hy312 => (refine Or.inl ⟨by rfl, ?_⟩; intro wq hSw; (try dsimp only at hSw); go_simp; (try with_reducible rfl))
        (try simp only [Act.put, List.setIfInBounds_toArray, List.set_cons_zero, List.set_cons_succ])
        refine wpAnyH_take (i := 13) (oi := ?oi313) (v := ?v313) ?hi313 (by kernel_rfl) (by kernel_rfl) (by kernel_rfl) ?hQ313 ?hy313 (by assumption) ?_
        case hi313 => (simp only [List.getElem?_toArray, List.getElem?_cons_succ, List.getElem?_cons_zero]; rfl)
        case hQ313 => exact fun _ _ _ h => h
        case hy313 => (refine Or.inl ⟨by rfl, ?_⟩; intro wq hSw; (try dsimp only at hSw); go_simp; (try with_reducible rfl))
        (try simp only [Act.put, List.setIfInBounds_toArray, List.set_cons_zero, List.set_cons_succ])
        refine wpAnyH_ready (rs := [4, 15]) (by kernel_rfl) (by simp) ?_
        refine AllReadyH.cons (o := ?oi314) ?hi314 ?ti314 ?ri314
        case hi314 => (simp only [List.getElem?_toArray, List.getElem?_cons_succ, List.getElem?_cons_zero]; rfl)
        case ti314 =>
          intro KQ hKQ
          go_simp
          (try simp [go_sem, ↓IntWalk.iteOmega, *])
          refine hKQ.out _ _ (by trivial) (fun hHeld2 => ?_)
          clear hHeld hKQ KQ; have hHeld := hHeld2; clear hHeld2
          (try simp only [Act.put, List.setIfInBounds_toArray, List.set_cons_zero, List.set_cons_succ])
          refine wpAnyH_take (i := 14) (oi := ?oi315) (v := ?v315) ?hi315 (by kernel_rfl) (by kernel_rfl) (by kernel_rfl) ?hQ315 ?hy315 (by assumption) ?_
          case hi315 => (simp only [List.getElem?_toArray, List.getElem?_cons_succ, List.getElem?_cons_zero]; rfl)
          case hQ315 => exact fun _ _ _ h => h
          case hy315 => (refine Or.inl ⟨by rfl, ?_⟩; intro wq hSw; (try dsimp only at hSw); go_simp; (try with_reducible rfl))
          (try simp only [Act.put, List.setIfInBounds_toArray, List.set_cons_zero, List.set_cons_succ])
          refine wpAnyH_ready (rs := [15]) (by kernel_rfl) (by simp) ?_
          refine AllReadyH.cons (o := ?oi316) ?hi316 ?ti316 AllReadyH.nil
          case hi316 => (simp only [List.getElem?_toArray, List.getElem?_cons_succ, List.getElem?_cons_zero]; rfl)
          case ti316 =>
            intro KQ hKQ
            go_simp
            refine hKQ.out _ _ (by trivial) (fun hHeld2 => ?_)
            clear hHeld hKQ KQ; have hHeld := hHeld2; clear hHeld2
            (try simp only [Act.put, List.setIfInBounds_toArray, List.set_cons_zero, List.set_cons_succ])
            refine wpAnyH_ready (rs := [16]) (by kernel_rfl) (by simp) ?_
            refine AllReadyH.cons (o := ?oi317) ?hi317 ?ti317 AllReadyH.nil
            case hi317 => (simp only [List.getElem?_toArray, List.getElem?_cons_succ, List.getElem?_cons_zero]; rfl)
            case ti317 =>
              intro KQ hKQ
              go_simp
              (try simp [go_sem, ↓IntWalk.iteOmega, *])
              refine hKQ.out _ _ (by trivial) (fun hHeld2 => ?_)
              clear hHeld hKQ KQ; have hHeld := hHeld2; clear hHeld2
              (try simp only [Act.put, List.setIfInBounds_toArray, List.set_cons_zero, List.set_cons_succ])
              refine wpAnyH_done (by kernel_rfl) ?_ _
              go_wp2
              go_loopw [35] (fun q wr => ∃ k : Nat, k ≤ (n - i) ∧ q = .int .i64 k ∧ Ext ((ext w x).alloc (.cells #[.int .i64 (rL c0 C k).1.1, .int .i64 (rL c0 C k).1.2, .int .i64 (rL c0 C k).2.1, .int .i64 (rL c0 C k).2.2, .slice (some ⟨b, o + i * 5, none⟩) (n - i) (c - i), .slice none 0 0] 34)) wr) (fun q _ => (n - i) - (intOf q).toNat)
              case atStart => exact ⟨0, Nat.zero_le _, rfl, Ext.dr (Ext.refl' _)⟩
              case round =>
                obtain ⟨k, hk, rfl, hE⟩ := hrel
                obtain ⟨x2, rfl⟩ := hE.get
                clear hE
                by_cases hlt2 : k < (n - i)
                · have hltC : k < C.length := by have := HEC.out; omega
                  obtain ⟨b', o', he, _, f0, f1, f2, f3, f4⟩ := hC.out.box rfl hltC
                  simp only [Option.some.injEq, Addr.mk.injEq, and_true] at he
                  obtain ⟨rfl, rfl⟩ := he
                  have HJ := Lib.hid (rL_succ c0 C hltC)
                  generalize C[k] = ck at f0 f1 f2 f3 f4 HJ
                  generalize rL c0 C k = rk at HJ ⊢
                  have HJN := Lib.hid (fun w => around_any rk ck.1 w)
                  go_wp2_with (go_at_call 37; refine (HJN.out _).mono ?_; rintro e w1 ⟨rfl, hb1⟩; obtain ⟨x1, rfl⟩ := hb1.get; clear hb1)
                  go_roundw
                  case rel => exact ⟨k + 1, by omega, by go_num, by rw [HJ.out]; exact (by repeat (first | exact Ext.refl' _ | assumption | apply Ext.ex' | apply Ext.al | apply Ext.drN | apply Ext.dr))⟩
                  case measure => simp [intOf]; omega
                · have HE := Lib.hid (rL_end hC0.out (show k = C.length by have := HEC.out; omega))
                  rw [HC0.out] at HE
                  generalize rL c0 C k = rk at HE ⊢
                  have HNW : Hid ((nodc rk (.slice (some ⟨b, o + i * 5, none⟩) (n - i) (c - i)) (.slice none 0 0)) = ndL b o wd n c L i) := Lib.hid (by unfold ndL; rw [HCC.out, ← HE.out, show min wd (n - i) = (n - i) from by omega])
                  go_wp2_with (at_builtin; refine wpList_app _ rfl (.tmp 46) (.tmp 48) rfl elNodeR w (by repeat (first | exact Ext.refl' _ | assumption | apply Ext.ex' | apply Ext.al | apply Ext.drN | apply Ext.dr)) _ _ _ rfl (by repeat (first | exact hown | apply World.ownsRow.alloc | apply own_ext)) _ 1 1 (nodc rk (.slice (some ⟨b, o + i * 5, none⟩) (n - i) (c - i)) (.slice none 0 0)) rfl (Rd.lit _ #[.int .i64 rk.1.1, .int .i64 rk.1.2, .int .i64 rk.2.1, .int .i64 rk.2.2, .slice (some ⟨b, o + i * 5, none⟩) (n - i) (c - i), .slice none 0 0] _ 1 6 rfl (by simp [size_ext])) (oneCell_nodc _ _ _ rfl rfl) (by unfold maxLen; omega) (by omega) ?_; intro v' x' hown' _)
                  go_roundw
                  case rel => exact ⟨j + 1, x', css ++ [ndL b o wd n c L i], by omega, by rw [HS1.out]; go_num, by simp [hcl], Lib.hid (by rw [HCS.out, List.range_succ, List.map_append]; simp [HI.out]), rfl, by rw [flat_snoc, ← HNW.out]; simpa using hown'⟩
                  case measure => (have hms := HMS.out; generalize nch wd n * wd = M at hms ⊢; simp [intOf]; omega)
        case ri314 =>
          refine AllReadyH.cons (o := ?oi318) ?hi318 ?ti318 AllReadyH.nil
          case hi318 => (simp only [List.getElem?_toArray, List.getElem?_cons_succ, List.getElem?_cons_zero]; rfl)
          case ti318 =>
            intro KQ hKQ
            go_simp
            refine hKQ.out _ _ (by trivial) (fun hHeld2 => ?_)
            clear hHeld hKQ KQ; have hHeld := hHeld2; clear hHeld2
            (try simp only [Act.put, List.setIfInBounds_toArray, List.set_cons_zero, List.set_cons_succ])
            refine wpAnyH_ready (rs := [4]) (by kernel_rfl) (by simp) ?_
            refine AllReadyH.cons (o := ?oi319) ?hi319 ?ti319 AllReadyH.nil
            case hi319 => (simp only [List.getElem?_toArray, List.getElem?_cons_succ, List.getElem?_cons_zero]; rfl)
            case ti319 =>
              intro KQ hKQ
              go_simp
              (try simp [go_sem, ↓IntWalk.iteOmega, *])
              refine hKQ.out _ _ (by trivial) (fun hHeld2 => ?_)
              clear hHeld hKQ KQ; have hHeld := hHeld2; clear hHeld2
              (try simp only [Act.put, List.setIfInBounds_toArray, List.set_cons_zero, List.set_cons_succ])
              refine wpAnyH_take (i := 14) (oi := ?oi320) (v := ?v320) ?hi320 (by kernel_rfl) (by kernel_rfl) (by kernel_rfl) ?hQ320 ?hy320 (by assumption) ?_
              case hi320 => (simp only [List.getElem?_toArray, List.getElem?_cons_succ, List.getElem?_cons_zero]; rfl)
              case hQ320 => exact fun _ _ _ h => h
              case hy320 => (refine Or.inl ⟨by rfl, ?_⟩; intro wq hSw; (try dsimp only at hSw); go_simp; (try with_reducible rfl))
              (try simp only [Act.put, List.setIfInBounds_toArray, List.set_cons_zero, List.set_cons_succ])
              refine wpAnyH_ready (rs := [16]) (by kernel_rfl) (by simp) ?_
              refine AllReadyH.cons (o := ?oi321) ?hi321 ?ti321 AllReadyH.nil
              case hi321 => (simp only [List.getElem?_toArray, List.getElem?_cons_succ, List.getElem?_cons_zero]; rfl)
              case ti321 =>
                intro KQ hKQ
                go_simp
                (try simp [go_sem, ↓IntWalk.iteOmega, *])
                refine hKQ.out _ _ (by trivial) (fun hHeld2 => ?_)
                clear hHeld hKQ KQ; have hHeld := hHeld2; clear hHeld2
                (try simp only [Act.put, List.setIfInBounds_toArray, List.set_cons_zero, List.set_cons_succ])
                refine wpAnyH_done (by kernel_rfl) ?_ _
                go_wp2
                go_loopw [35] (fun q wr => ∃ k : Nat, k ≤ (n - i) ∧ q = .int .i64 k ∧ Ext ((ext w x).alloc (.cells #[.int .i64 (rL c0 C k).1.1, .int .i64 (rL c0 C k).1.2, .int .i64 (rL c0 C k).2.1, .int .i64 (rL c0 C k).2.2, .slice (some ⟨b, o + i * 5, none⟩) (n - i) (c - i), .slice none 0 0] 34)) wr) (fun q _ => (n - i) - (intOf q).toNat)
                case atStart => exact ⟨0, Nat.zero_le _, rfl, Ext.dr (Ext.refl' _)⟩
                case round =>
                  obtain ⟨k, hk, rfl, hE⟩ := hrel
                  obtain ⟨x2, rfl⟩ := hE.get
                  clear hE
                  by_cases hlt2 : k < (n - i)
                  · have hltC : k < C.length := by have := HEC.out; omega
                    obtain ⟨b', o', he, _, f0, f1, f2, f3, f4⟩ := hC.out.box rfl hltC
                    simp only [Option.some.injEq, Addr.mk.injEq, and_true] at he
                    obtain ⟨rfl, rfl⟩ := he
                    have HJ := Lib.hid (rL_succ c0 C hltC)
                    generalize C[k] = ck at f0 f1 f2 f3 f4 HJ
                    generalize rL c0 C k = rk at HJ ⊢
                    have HJN := Lib.hid (fun w => around_any rk ck.1 w)
                    go_wp2_with (go_at_call 37; refine (HJN.out _).mono ?_; rintro e w1 ⟨rfl, hb1⟩; obtain ⟨x1, rfl⟩ := hb1.get; clear hb1)
                    go_roundw
                    case rel => exact ⟨k + 1, by omega, by go_num, by rw [HJ.out]; exact (by repeat (first | exact Ext.refl' _ | assumption | apply Ext.ex' | apply Ext.al | apply Ext.drN | apply Ext.dr))⟩
                    case measure => simp [intOf]; omega
                  · have HE := Lib.hid (rL_end hC0.out (show k = C.length by have := HEC.out; omega))
                    rw [HC0.out] at HE
                    generalize rL c0 C k = rk at HE ⊢
                    have HNW : Hid ((nodc rk (.slice (some ⟨b, o + i * 5, none⟩) (n - i) (c - i)) (.slice none 0 0)) = ndL b o wd n c L i) := Lib.hid (by unfold ndL; rw [HCC.out, ← HE.out, show min wd (n - i) = (n - i) from by omega])
                    go_wp2_with (at_builtin; refine wpList_app _ rfl (.tmp 46) (.tmp 48) rfl elNodeR w (by repeat (first | exact Ext.refl' _ | assumption | apply Ext.ex' | apply Ext.al | apply Ext.drN | apply Ext.dr)) _ _ _ rfl (by repeat (first | exact hown | apply World.ownsRow.alloc | apply own_ext)) _ 1 1 (nodc rk (.slice (some ⟨b, o + i * 5, none⟩) (n - i) (c - i)) (.slice none 0 0)) rfl (Rd.lit _ #[.int .i64 rk.1.1, .int .i64 rk.1.2, .int .i64 rk.2.1, .int .i64 rk.2.2, .slice (some ⟨b, o + i * 5, none⟩) (n - i) (c - i), .slice none 0 0] _ 1 6 rfl (by simp [size_ext])) (oneCell_nodc _ _ _ rfl rfl) (by unfold maxLen; omega) (by omega) ?_; intro v' x' hown' _)
                    go_roundw
                    case rel => exact ⟨j + 1, x', css ++ [ndL b o wd n c L i], by omega, by rw [HS1.out]; go_num, by simp [hcl], Lib.hid (by rw [HCS.out, List.range_succ, List.map_append]; simp [HI.out]), rfl, by rw [flat_snoc, ← HNW.out]; simpa using hown'⟩
                    case measure => (have hms := HMS.out; generalize nch wd n * wd = M at hms ⊢; simp [intOf]; omega)
    · have hjn : j = nch wd n := by omega
      have HJN := Lib.hid hjn
      clear hjn
      have hge : n ≤ j * wd := by
        rcases Nat.lt_or_ge (j * wd) n with h | h
        · exact absurd ((lt_nch hwd).2 h) hlt
        · exact h
      generalize hi : j * wd = i at hge
      clear hi
      obtain ⟨A6, c6, rfl, hc6, hc63⟩ := Own.form hown
      go_wp2
      go_ret
      have hE : Ext w (ext w x) := Ext.ex _ _
      have hlc : css.length = (leavesF wd L).length := by rw [hcl, HJN.out, leavesF_length, ← HL.out]
      refine ⟨A6, c6, css, by rw [← hlc]; rfl, hE, by omega, by unfold maxLen at hc63; omega, fun X hX hag hBase => ⟨?_, ?_⟩⟩
      · rw [← hlc]
        refine (Rd.of_own hown).agree fun b o hA hb => ⟨by omega, hag b ?_ hb⟩
        exact (row_block hown (r := b) (by rw [hA]; rfl)).1
      refine RMs.of hlc fun k h1 h2 => ?_
      have hk : k * wd < n := (lt_nch (n := n) hwd).1 (by have := HJN.out; omega)
      have hck : css[k] = ndL b o wd n c L (k * wd) := by simp only [HCS.out, List.getElem_map, List.getElem_range]
      rw [hck]
      have hCe := hBase.boxes HL.out (k * wd) wd (by omega)
      have hlen : min wd (n - k * wd) = ((L.drop (k * wd)).take wd).length := by rw [chunk_len, ← HL.out]
      have hne : 0 < ((L.drop (k * wd)).take wd).length := by rw [← hlen]; omega
      rw [show (leavesF wd L)[k] = mkL ((L.drop (k * wd)).take wd) from by simp [leavesF, chunks]]
      unfold ndL
      rw [hlen]
      generalize (L.drop (k * wd)).take wd = C at hCe hne hlen
      cases C with
      | nil => simp at hne
      | cons q C =>
        rw [mkL, RM]
        exact ⟨_, _, rfl, by omega, hCe⟩

end Go.Proofs.Ytgobmiahhmajdaa
