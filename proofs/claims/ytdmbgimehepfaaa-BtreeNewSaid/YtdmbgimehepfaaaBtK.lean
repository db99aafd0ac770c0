/- Several rows and structs apart from one another: what each step of a walk does to them. -/
import Derived.Test.YtdmbgimehepfaaaBtN
set_option linter.unusedSimpArgs false
set_option linter.unusedVariables false
namespace Go.Proofs.Ytdmbgimehepfaaa
open Go.RowKit

theorem Ext.at {W W' : World} (e : Ext W W') {b : Nat} {o : Obj} (h : W.heap[b]? = some o) : W'.heap[b]? = some o := (e.block b (Array.getElem?_eq_some_iff.1 h).1).trans h
theorem set_other {W : World} {b o k : Nat} {u : Value} (h : k ≠ b) : (W.setCell ⟨b, o, none⟩ u).heap[k]? = W.heap[k]? := Below.heap_setCell _ _ _ k (by simpa using h)
theorem set_size (W : World) (b o : Nat) (u : Value) : (W.setCell ⟨b, o, none⟩ u).heap.size = W.heap.size := by show (W.heap.modify b _).size = _; rw [Array.size_modify]
theorem two_cells {W : World} {b : Nat} {x y : Value} {t : TypeId} (h : W.heap[b]? = some (.cells #[x, y] t (0, 0))) : b < W.heap.size ∧ W.cell? ⟨b, 0, none⟩ = some x ∧ W.cell? ⟨b, 1, none⟩ = some y ∧ W.frozen? ⟨b, 0, none⟩ = false ∧ W.frozen? ⟨b, 1, none⟩ = false := by
  refine ⟨(Array.getElem?_eq_some_iff.1 h).1, ?_, ?_, ?_, ?_⟩ <;> simp [World.cell?, World.frozen?, h]
theorem ownsRow_ext {w w' : World} {base : Nat} {e : TypeId} {size n : Nat} {v : Value} {xs : List Value} (h : w.ownsRow base e size v n xs) (x : Ext w w') : w'.ownsRow base e size v n xs := ownsRow_same h fun g hg => x.block g (h.lt g hg).2
theorem ob_cases {w : World} {base : Nat} {e : TypeId} {size n : Nat} {v : Value} {xs : List Value} (h : w.ownsRow base e size v n xs) : ob v = [] ∨ ∃ g, ob v = [g] ∧ v.ownBlock = some g ∧ base ≤ g ∧ g < w.heap.size := by
  unfold ob
  cases hv : v.ownBlock with
  | none => exact .inl rfl
  | some g => exact .inr ⟨g, rfl, rfl, h.lt g hv⟩
/-- a row: its value, element type, cells an element, number, cells -/
structure Rw where
  v : Value
  e : TypeId
  k : Nat
  n : Nat
  xs : List Value
/-- a block: its number, cells, type -/
structure Bk where
  b : Nat
  c : Array Value
  t : TypeId
def blks (N : List Bk) (L : List Rw) : List Nat := N.map Bk.b ++ L.flatMap fun r => ob r.v
/-- blocks N and rows L of the world W, apart from one another; since w only blocks of S have turned -/
structure Hp (base : Nat) (S : List Nat) (w W : World) (N : List Bk) (L : List Rw) : Prop where
  hb : base ≤ w.heap.size
  mu : Mut base S w W
  nod : ∀ x ∈ N, base ≤ x.b ∧ W.heap[x.b]? = some (.cells x.c x.t (0, 0))
  row : ∀ r ∈ L, W.ownsRow base r.e r.k r.v r.n r.xs
  dis : (blks N L).Nodup
  new : ∀ b ∈ blks N L, b ∈ S ∨ w.heap.size ≤ b
theorem Mut.step {base : Nat} {S T : List Nat} {w W W' : World} (h : Mut base S w W) (h1 : W'.os = W.os) (h2 : W'.tape = W.tape) (h3 : W'.output = W.output) (h4 : W.heap.size ≤ W'.heap.size) (hs : ∀ b, b < W.heap.size → b ∉ T → W'.heap[b]? = W.heap[b]?) (ht : ∀ b ∈ T, b ∈ S ∨ w.heap.size ≤ b) : Mut base S w W' :=
  ⟨h1.trans h.os, h2.trans h.tape, h3.trans h.output, Nat.le_trans h.size h4, fun b hb hn => (hs b (Nat.lt_of_lt_of_le hb h.size) (fun e => (ht b e).elim hn fun e => by omega)).trans (h.same b hb hn), h.old, h.typ⟩
theorem Mut.start {base : Nat} {S : List Nat} {w : World} (h1 : ∀ b ∈ S, b < w.heap.size → base ≤ b) (h2 : ∀ b ∈ S, ∀ c ty f, w.heap[b]? = some (.cells c ty f) → TreeT ty) : Mut base S w w :=
  ⟨rfl, rfl, rfl, Nat.le_refl _, fun _ _ _ => rfl, h1, h2⟩
theorem nodup_mid {α : Type} {a : α} {x y : List α} : (x ++ a :: y).Nodup ↔ (a :: (x ++ y)).Nodup := (List.perm_middle (a := a) (l₁ := x) (l₂ := y)).nodup_iff
theorem mem_blks {N : List Bk} {L : List Rw} {b : Nat} : b ∈ blks N L ↔ (∃ x ∈ N, x.b = b) ∨ ∃ r ∈ L, r.v.ownBlock = some b := by
  simp only [blks, List.mem_append, List.mem_map, List.mem_flatMap, ob_mem]
section
variable {base : Nat} {S : List Nat} {w W W' : World} {N : List Bk} {L : List Rw}
theorem Hp.lt (h : Hp base S w W N L) : ∀ b ∈ blks N L, base ≤ b ∧ b < W.heap.size := by
  intro b hb
  rcases mem_blks.1 hb with ⟨x, hx, rfl⟩ | ⟨r, hr, hg⟩
  · exact ⟨(h.nod x hx).1, (Array.getElem?_eq_some_iff.1 (h.nod x hx).2).1⟩
  · exact (h.row r hr).lt b hg
theorem Hp.ext (h : Hp base S w W N L) (e : Ext W W') : Hp base S w W' N L :=
  ⟨h.hb, h.mu.step (T := []) e.os e.tape e.output e.size (fun b hb _ => e.block b hb) (by simp), fun x hx => ⟨(h.nod x hx).1, e.at (h.nod x hx).2⟩, fun r hr => ownsRow_ext (h.row r hr) e, h.dis, h.new⟩
theorem split_at {α : Type} {l : List α} {i : Nat} {x : α} (h : l[i]? = some x) : ∃ A B, l = A ++ x :: B ∧ ∀ y, l.set i y = A ++ y :: B := by
  obtain ⟨hi, rfl⟩ := List.getElem?_eq_some_iff.1 h
  exact ⟨l.take i, l.drop (i + 1), by rw [List.getElem_cons_drop, List.take_append_drop], fun y => by rw [List.set_eq_take_append_cons_drop, if_pos hi]⟩
theorem Hp.set (h : Hp base S w W N L) (i : Nat) {b : Nat} {c : Array Value} {t : TypeId} (hi : N[i]? = some ⟨b, c, t⟩) (o : Nat) (u : Value) : Hp base S w (W.setCell ⟨b, o, none⟩ u) (N.set i ⟨b, c.setIfInBounds o u, t⟩) L := by
  obtain ⟨A, B, hN, hs⟩ := split_at hi
  rw [hs]
  subst hN
  have hd := h.dis
  have hne : ∀ k ∈ blks (A ++ B) L, k ≠ b := by
    intro k hk e
    subst e
    unfold blks at hd hk
    simp only [List.map_append, List.map_cons, List.append_assoc, List.cons_append] at hd hk
    have := (nodup_mid (a := k)).1 hd
    exact (List.nodup_cons.1 this).1 (by simpa using hk)
  refine ⟨h.hb, h.mu.step (T := [b]) rfl rfl rfl (by rw [set_size]; exact Nat.le_refl _) (fun k _ hk => set_other (by simpa using hk)) (fun k hk => by
    simp only [List.mem_singleton] at hk
    subst hk
    exact h.new _ (mem_blks.2 (.inl ⟨⟨_, c, t⟩, by simp, rfl⟩))), fun x hx => ?_, fun r hr => ownsRow_same (h.row r hr) fun g hg => set_other (hne g (mem_blks.2 (.inr ⟨r, hr, hg⟩))), ?_, ?_⟩
  · have hb := h.nod ⟨b, c, t⟩ (by simp)
    rcases List.mem_append.1 hx with hx | hx
    · refine ⟨(h.nod x (by simp [hx])).1, (set_other (hne x.b (mem_blks.2 (.inl ⟨x, by simp [hx], rfl⟩)))).trans (h.nod x (by simp [hx])).2⟩
    · rcases List.mem_cons.1 hx with rfl | hx
      · exact ⟨hb.1, set_heap hb.2 o u⟩
      · refine ⟨(h.nod x (by simp [hx])).1, (set_other (hne x.b (mem_blks.2 (.inl ⟨x, by simp [hx], rfl⟩)))).trans (h.nod x (by simp [hx])).2⟩
  · simpa [blks] using hd
  · simpa [blks] using h.new
theorem Hp.grow (h : Hp base S w W N L) (j : Nat) {r : Rw} (hj : L[j]? = some r) {v' : Value} {n' : Nat} {xs' : List Value} (hg : W.grownBy W' r.v.ownBlock) (ho : W'.ownsRow base r.e r.k v' n' xs') (hn : ∀ q, v'.ownBlock = some q → r.v.ownBlock = some q ∨ W.heap.size ≤ q) : Hp base S w W' N (L.set j ⟨v', r.e, r.k, n', xs'⟩) := by
  obtain ⟨A, B, hL, hs⟩ := split_at hj
  rw [hs]
  subst hL
  have hd := h.dis
  have hlt := h.lt
  have hne : ∀ k ∈ blks N (A ++ B), r.v.ownBlock ≠ some k := by
    intro k hk e
    have hk2 : k ∈ ob r.v := ob_mem.2 e
    unfold blks at hd hk
    simp only [List.flatMap_append, List.flatMap_cons, ← List.append_assoc] at hd hk
    have h1 := List.nodup_append.1 hd
    have h2 := List.nodup_append.1 h1.1
    rcases List.mem_append.1 hk with hk | hk
    · exact h2.2.2 k hk k hk2 rfl
    · exact h1.2.2 k (List.mem_append_right _ hk2) k hk rfl
  have hsub : ∀ k ∈ blks N (A ++ B), k ∈ blks N (A ++ r :: B) := fun k hk => by
    rcases mem_blks.1 hk with h1 | ⟨x, hx, e⟩
    · exact mem_blks.2 (.inl h1)
    · exact mem_blks.2 (.inr ⟨x, by rcases List.mem_append.1 hx with hx | hx <;> simp [hx], e⟩)
  have hsame : ∀ k ∈ blks N (A ++ B), W'.heap[k]? = W.heap[k]? := fun k hk => hg.block k (hlt k (hsub k hk)).2 (fun e => hne k hk e.symm)
  refine ⟨h.hb, h.mu.step (T := ob r.v) hg.os hg.tape hg.output hg.size (fun k hk hn => hg.block k hk (fun e => hn (ob_mem.2 e.symm))) (fun k hk => h.new k (mem_blks.2 (.inr ⟨r, by simp, ob_mem.1 hk⟩))), fun x hx => ⟨(h.nod x hx).1, (hsame x.b (mem_blks.2 (.inl ⟨x, hx, rfl⟩))).trans (h.nod x hx).2⟩, fun x hx => ?_, ?_, ?_⟩
  · rcases List.mem_append.1 hx with hx | hx
    · exact ownsRow_same (h.row x (by simp [hx])) fun g hg => hsame g (mem_blks.2 (.inr ⟨x, by simp [hx], hg⟩))
    · rcases List.mem_cons.1 hx with rfl | hx
      · exact ho
      · exact ownsRow_same (h.row x (by simp [hx])) fun g hg => hsame g (mem_blks.2 (.inr ⟨x, by simp [hx], hg⟩))
  · have hq : ∀ k ∈ ob v', k ∉ blks N (A ++ B) := fun k hk e => by
      rcases hn k (ob_mem.1 hk) with h1 | h1
      · exact hne k e h1
      · have := (hlt k (hsub k e)).2; omega
    have hv : (ob v').Nodup := by unfold ob; split <;> simp
    unfold blks at hd hq ⊢
    simp only [List.flatMap_append, List.flatMap_cons, List.nodup_append, List.mem_append, List.mem_map, List.mem_flatMap] at hd hq ⊢
    grind
  · intro k hk
    rcases mem_blks.1 hk with ⟨x, hx, rfl⟩ | ⟨x, hx, e⟩
    · exact h.new _ (mem_blks.2 (.inl ⟨x, hx, rfl⟩))
    · rcases List.mem_append.1 hx with hx | hx
      · exact h.new _ (mem_blks.2 (.inr ⟨x, by simp [hx], e⟩))
      · rcases List.mem_cons.1 hx with rfl | hx
        · rcases hn k e with h1 | h1
          · exact h.new k (mem_blks.2 (.inr ⟨r, by simp, h1⟩))
          · exact .inr (Nat.le_trans h.mu.size h1)
        · exact h.new _ (mem_blks.2 (.inr ⟨x, by simp [hx], e⟩))
theorem Hp.bs (h : Hp base S w W N L) : base ≤ W.heap.size := Nat.le_trans h.hb h.mu.size
theorem Hp.addRow (h : Hp base S w W N L) (e : Ext W W') {ty : TypeId} {k n : Nat} {v : Value} {xs : List Value} (ho : W'.ownsRow W.heap.size ty k v n xs) : Hp base S w W' N (L ++ [⟨v, ty, k, n, xs⟩]) := by
  have h' := h.ext e
  have hlt := h.lt
  have hb := h.bs
  refine ⟨h'.hb, h'.mu, h'.nod, fun r hr => ?_, ?_, fun b hb' => ?_⟩
  · rcases List.mem_append.1 hr with hr | hr
    · exact h'.row r hr
    · simp only [List.mem_singleton] at hr
      subst hr
      exact own_mono ho hb
  · have : blks N (L ++ [⟨v, ty, k, n, xs⟩]) = blks N L ++ ob v := by simp [blks]
    rw [this, List.nodup_append]
    refine ⟨h.dis, by unfold ob; split <;> simp, fun a ha b hb' e => ?_⟩
    subst e
    have := (hlt a ha).2
    have := (ho.lt a (ob_mem.1 hb')).1
    omega
  · have : blks N (L ++ [⟨v, ty, k, n, xs⟩]) = blks N L ++ ob v := by simp [blks]
    rw [this] at hb'
    rcases List.mem_append.1 hb' with hb' | hb'
    · exact h.new b hb'
    · have := (ho.lt b (ob_mem.1 hb')).1
      have := h.mu.size
      exact .inr (by omega)
theorem Hp.addBk (h : Hp base S w W N L) (e : Ext W W') {b : Nat} {c : Array Value} {t : TypeId} (hn : W.heap.size ≤ b) (ho : W'.heap[b]? = some (.cells c t (0, 0))) : Hp base S w W' (N ++ [⟨b, c, t⟩]) L := by
  have h' := h.ext e
  have hlt := h.lt
  have hb := h.bs
  refine ⟨h'.hb, h'.mu, fun x hx => ?_, h'.row, ?_, fun k hk => ?_⟩
  · rcases List.mem_append.1 hx with hx | hx
    · exact h'.nod x hx
    · simp only [List.mem_singleton] at hx
      subst hx
      exact ⟨Nat.le_trans hb hn, ho⟩
  · have hq : b ∉ blks N L := fun e => by have := (hlt b e).2; omega
    have hd := h.dis
    unfold blks at hd hq ⊢
    simp only [List.map_append, List.map_cons, List.map_nil, List.append_assoc, List.cons_append, List.nil_append]
    rw [nodup_mid, List.nodup_cons]
    exact ⟨hq, hd⟩
  · rcases mem_blks.1 hk with ⟨x, hx, rfl⟩ | h1
    · rcases List.mem_append.1 hx with hx | hx
      · exact h.new _ (mem_blks.2 (.inl ⟨x, hx, rfl⟩))
      · simp only [List.mem_singleton] at hx
        subst hx
        exact .inr (Nat.le_trans h.mu.size hn)
    · exact h.new k (mem_blks.2 (.inr h1))
theorem sub_fm {α β : Type} {f : α → List β} {a b : List α} (h : a.Sublist b) : (a.flatMap f).Sublist (b.flatMap f) := by
  induction h with
  | slnil => exact .slnil
  | cons x _ ih => exact ih.trans (List.sublist_append_right _ _)
  | cons_cons x _ ih => exact (List.Sublist.refl _).append ih
theorem Hp.sub (h : Hp base S w W N L) {N' : List Bk} {L' : List Rw} (hN : N'.Sublist N) (hL : L'.Sublist L) : Hp base S w W N' L' := by
  have hs : (blks N' L').Sublist (blks N L) := (hN.map _).append (sub_fm hL)
  exact ⟨h.hb, h.mu, fun x hx => h.nod x (hN.subset hx), fun r hr => h.row r (hL.subset hr), h.dis.sublist hs, fun b hb => h.new b (hs.subset hb)⟩
theorem Hp.perm (h : Hp base S w W N L) {N' : List Bk} {L' : List Rw} (hN : N'.Perm N) (hL : L'.Perm L) : Hp base S w W N' L' := by
  have hs : (blks N' L').Perm (blks N L) := (hN.map _).append (hL.flatMap_right _)
  exact ⟨h.hb, h.mu, fun x hx => h.nod x (hN.subset hx), fun r hr => h.row r (hL.subset hr), hs.nodup_iff.2 h.dis, fun b hb => h.new b (hs.subset hb)⟩
theorem Hp.at (h : Hp base S w W N L) (i : Nat) {x : Bk} (hi : N[i]? = some x) : W.heap[x.b]? = some (.cells x.c x.t (0, 0)) := (h.nod x (List.mem_of_getElem? hi)).2
theorem Hp.own (h : Hp base S w W N L) (j : Nat) {r : Rw} (hj : L[j]? = some r) : W.ownsRow base r.e r.k r.v r.n r.xs := h.row r (List.mem_of_getElem? hj)
theorem Hp.two (h : Hp base S w W N L) (i : Nat) {b : Nat} {x y : Value} {t : TypeId} (hi : N[i]? = some ⟨b, #[x, y], t⟩) : b < W.heap.size ∧ W.cell? ⟨b, 0, none⟩ = some x ∧ W.cell? ⟨b, 1, none⟩ = some y ∧ W.frozen? ⟨b, 0, none⟩ = false ∧ W.frozen? ⟨b, 1, none⟩ = false := two_cells (h.at i hi)
theorem Hp.node (h : Hp base S w W N L) (i j k : Nat) {b : Nat} {vp vk : Value} {ps : List MP} {ks : List MT} (hi : N[i]? = some ⟨b, #[vp, vk], TN⟩) (hj : L[j]? = some ⟨vp, TP, 2, ps.length, mpl ps⟩) (hk : L[k]? = some ⟨vk, TQ, 1, ks.length, ptl (ks.map MT.r)⟩) : NodeOk base W (.nd b vp vk ps ks) :=
  ⟨(h.nod _ (List.mem_of_getElem? hi)).1, h.at i hi, h.own j hj, h.own k hk⟩
theorem Hp.al (h : Hp base S w W N L) {b : Nat} {c : Array Value} {t : TypeId} (hb : b = W.heap.size) : Hp base S w (W.alloc (.cells c t)) (N ++ [⟨b, c, t⟩]) L := by
  subst hb
  exact h.addBk (Ext.al1 _ _) (Nat.le_refl _) (heap_alloc_new _ _)
theorem Hp.start (hbw : base ≤ w.heap.size) (hS : Mut base S w w) (hn : ∀ x ∈ N, base ≤ x.b ∧ w.heap[x.b]? = some (.cells x.c x.t (0, 0))) (hr : ∀ r ∈ L, w.ownsRow base r.e r.k r.v r.n r.xs) (hd : (blks N L).Nodup) (hs : ∀ b ∈ blks N L, b ∈ S) : Hp base S w w N L :=
  ⟨hbw, hS, hn, hr, hd, fun b hb => .inl (hs b hb)⟩
end
/-- the blocks of a node, as they stand at the start -/
abbrev bkOf (t : MT) : Bk := ⟨t.r, #[t.vp, t.vk], TN⟩
abbrev rpOf (t : MT) : Rw := ⟨t.vp, TP, 2, t.ps.length, mpl t.ps⟩
abbrev rkOf (t : MT) : Rw := ⟨t.vk, TQ, 1, t.ks.length, ptl (t.ks.map MT.r)⟩
theorem fmd {α : Type} {enc : α → List Value} {k : Nat} (h : ∀ a, (enc a).length = k) : ∀ (l : List α) (i : Nat), (l.flatMap enc).drop (i * k) = (l.drop i).flatMap enc
  | l, 0 => by simp
  | [], i + 1 => by simp
  | a :: l, i + 1 => by
    rw [List.flatMap_cons, List.drop_append, h, Nat.add_mul, Nat.one_mul, List.drop_eq_nil_of_le (by rw [h]; omega), List.nil_append, Nat.add_sub_cancel, fmd h l i]
    rfl
theorem fmt {α : Type} {enc : α → List Value} {k : Nat} (h : ∀ a, (enc a).length = k) : ∀ (l : List α) (i : Nat), (l.flatMap enc).take (i * k) = (l.take i).flatMap enc
  | l, 0 => by simp
  | [], i + 1 => by simp
  | a :: l, i + 1 => by
    rw [List.flatMap_cons, List.take_append, h, Nat.add_mul, Nat.one_mul, List.take_of_length_le (by rw [h]; omega), Nat.add_sub_cancel, fmt h l i]
    rfl
theorem mpl_drop (l : List MP) (i : Nat) : (mpl l).drop (i * 2) = mpl (l.drop i) := fmd (enc := mp2) (k := 2) (fun _ => rfl) l i
theorem mpl_take (l : List MP) (i : Nat) : (mpl l).take (i * 2) = mpl (l.take i) := fmt (enc := mp2) (k := 2) (fun _ => rfl) l i
theorem ptl_drop (l : List MT) (i : Nat) : (ptl (l.map MT.r)).drop i = ptl ((l.drop i).map MT.r) := by simp [ptl]
theorem ptl_take (l : List MT) (i : Nat) : (ptl (l.map MT.r)).take i = ptl ((l.take i).map MT.r) := by simp [ptl]
/-- the head and the rest of a row -/
theorem Rd.headP {w : World} {b o n : Nat} {xs : List Value} {sz : Nat} (h : Rd w sz (some ⟨b, o, none⟩) n xs) (k : Nat) (hk : k ≤ n) : Rd w sz (some ⟨b, o, none⟩) k (xs.take (k * sz)) := by
  have h1 := Nat.mul_le_mul_right sz hk
  have hl := h.1
  refine ⟨by rw [List.length_take]; omega, fun h0 => ?_⟩
  obtain ⟨b', o', he, hb, hc⟩ := h.2 (by omega)
  refine ⟨b', o', he, hb, fun j u hu => hc j u ?_⟩
  rw [List.getElem?_take] at hu
  split at hu
  · exact hu
  · cases hu
theorem Rd.restP {w : World} {b o n : Nat} {xs : List Value} {sz : Nat} (h : Rd w sz (some ⟨b, o, none⟩) n xs) (k : Nat) (hk : k ≤ n) : Rd w sz (some ⟨b, o + k * sz, none⟩) (n - k) (xs.drop (k * sz)) := by
  have h1 := Nat.mul_le_mul_right sz hk
  have hl := h.1
  have h2 : (n - k) * sz = n * sz - k * sz := Nat.sub_mul _ _ _
  refine ⟨by rw [List.length_drop]; omega, fun h0 => ?_⟩
  obtain ⟨b', o', he, hb, hc⟩ := h.2 (by omega)
  simp only [Option.some.injEq, Addr.mk.injEq, and_true] at he
  obtain ⟨rfl, rfl⟩ := he
  refine ⟨b, o + k * sz, rfl, hb, fun j u hu => ?_⟩
  rw [List.getElem?_drop] at hu
  have := hc (k * sz + j) u hu
  rwa [← Nat.add_assoc] at this
end Go.Proofs.Ytdmbgimehepfaaa
