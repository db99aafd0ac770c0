/- Lemmas for the rows: Own. -/
import Derived.Test.YtdiaecgpjgdkdaaGreatThS03
import Derived.Deep.AppendLies
set_option linter.unusedSimpArgs false
set_option linter.unusedVariables false
namespace Go.Proofs.YtdiaecgpjgdkdaaGreat
open Go.RowKit

structure El (P : Program) (t e : TypeId) (z : Value) (size bytes : Nat) : Prop where
 ht : P.underlying t = some (.slice e)
 hi : ∃ i, P.info? e = some i ∧ i.zero = some z ∧ i.size = size ∧ i.bytes = bytes
 hzs : z.cells.size = size
 hsz : 0 < size

abbrev Own (W : World) (x : Add) (e size : Nat) (v : Value) (n : Nat) (xs : List Value) : Prop := (ext W x).ownsRow W.heap.size e size v n xs

theorem ext_of_below {W w : World} (h : Below W.heap.size W w) : ∃ x, w = ext W x := Below.toExt h
theorem ext_of_grown {W w w1 : World} {e size n : Nat} {v : Value} {xs : List Value} (hW : Ext W w) (ho : w.ownsRow W.heap.size e size v n xs) (hg : w.grownBy w1 v.ownBlock) : ∃ x, w1 = ext W x :=
 ext_of_below (Below.grown hW hg hW.size fun k hk => (ho.lt k hk).1)

theorem add_none (b o j : Nat) : (⟨b, o, none⟩ : Addr).add j = ⟨b, o + j, none⟩ := by
 unfold Addr.add; split <;> simp_all

theorem Rd.lit (w : World) (news : Array Value) (e m size : Nat) (hl : news.size = m * size) {b : Nat} (hb : b = w.heap.size) : Rd (w.alloc (.cells news e)) size (some ⟨b, 0, none⟩) m news.toList := by
 subst hb
 refine ⟨by simpa using hl, fun _ => ⟨_, _, rfl, by simp, fun j u hu => ?_⟩⟩
 rw [World.cell?_alloc_at _ _ _ _ rfl]
 simpa using hu

theorem Rd.of_own {w : World} {base e size n c : Nat} {A : Option Addr} {xs : List Value} (h : w.ownsRow base e size (.slice A n c) n xs) : Rd w size A n xs := by
 refine ⟨h.1, fun hn => ?_⟩
 rcases h.2 with ⟨h', h0⟩ | ⟨g, cap, cur, h', hb, hg, hnc, hcm, hcs, htake⟩
 ·
  subst h0; simp at hn
 ·
  simp only [Value.slice.injEq] at h'
  obtain ⟨rfl, _, rfl⟩ := h'
  refine ⟨g, 0, rfl, (Array.getElem?_eq_some_iff.1 hg).1, fun j u hu => ?_⟩
  have := h.cells (g := g) rfl j u hu
  rwa [add_none] at this

theorem wp_region_ext {P : Program} {id : Nat} {Q : Exit → Act → World → Prop} {a : Act} {w : World} {l : List Oper} (hm : P.follows .mixedOrders = true) (hB : Region.lexB .any l.toArray = true)
  (h : wpQuiet P l.toArray (fun w' => ∃ x : Add, w' = ext w x) (fun a' => ∀ w', (∃ x : Add, w' = ext w x) → Q .normal a' w') l a) : (Code.region id l.toArray true).wp P Q a w :=
 wp_region_quiet (C := fun w' => ∃ x : Add, w' = ext w x) hm hB ((show Ext w w.drew from Ext.dr (Ext.refl' w)).get) (by simpa using h)
theorem Calls.ext_of {P : Program} {f : FuncId} {args : Array Value} {w : World} {x : Add} {v : Value} (h : Calls P f args (ext w x) fun e w' => e = .returned v ∧ Ext (ext w x) w') :
  Calls P f args (ext w x) fun e w'' => e = .returned v ∧ ∃ x' : Add, w'' = ext w x' :=
 h.mono fun _ _ ⟨he, hE⟩ => ⟨he, ((Ext.ex w x).tr hE).get⟩

section
variable {P : Program} (w : World)

theorem run_append_nil (base : Nat) (t ty e : TypeId) (i : TypeInfo) (size : Nat) (ht : P.underlying t = some (.slice e)) (hi : P.info? e = some i)
  (v : Value) (n : Nat) (xs : List Value) (hown : w.ownsRow base e size v n xs) (c : Nat) : (Builtin.append_ #[t, t] ty #[v, .slice none 0 c]).run P w = .ok v w := by
 rcases hown.2 with ⟨rfl, rfl⟩ | ⟨g, cap, cur, rfl, _, _, hnc, _⟩
 ·
  simp [Builtin.append_, run_underlying ht, sizeOf, typeInfo, hi, Builtin.lenOf, Builtin.firstCells]
 ·
  simp [Builtin.append_, run_underlying ht, sizeOf, typeInfo, hi, Builtin.lenOf, Builtin.firstCells, hnc, storeCells]

theorem run_app {t e ty : TypeId} {z : Value} {size bytes : Nat} (E : El P t e z size bytes) (W : World) (hW : Ext W w) (v : Value) (n : Nat) (xs : List Value) (hown : w.ownsRow W.heap.size e size v n xs)
  (A : Option Addr) (m c : Nat) (news : List Value) (hr : Rd w size A m news) (h1 : ∀ u ∈ news, u.oneCell' = true) (h63 : n + m ≤ maxLen) (hbytes : (n + m) * bytes ≤ 140737488355328) :
  ∃ v' x', (Builtin.append_ #[t, t] ty #[v, .slice A m c]).run P w = .ok v' (ext W x') ∧ Own W x' e size v' (n + m) (xs ++ news) ∧ w.grownBy (ext W x') v.ownBlock := by
 obtain ⟨i, hi, hz, hs, hb⟩ := E.hi
 rcases A with _ | ad
 ·
  have hm : m = 0 := by
   rcases Nat.eq_zero_or_pos m with h0 | h0
   ·
    exact h0
   ·
    obtain ⟨b, o, h, _⟩ := hr.2 (Nat.mul_pos h0 E.hsz)
    cases h
  subst hm
  have hn : news = [] := List.eq_nil_of_length_eq_zero (by simpa using hr.1)
  subst hn
  obtain ⟨x, hx⟩ := hW.get
  refine ⟨v, x, ?_, ?_, ?_⟩
  ·
   rw [← hx]; exact run_append_nil w W.heap.size t ty e i size E.ht hi v n xs hown c
  ·
   unfold Own; rw [← hx]; simpa using hown
  ·
   rw [← hx]; exact World.grownBy.refl w _
 ·
  have hcells : ∀ j u, news[j]? = some u → w.cell? (ad.add j) = some u := by
   intro j u hu
   rcases Nat.eq_zero_or_pos m with h0 | h0
   ·
    subst h0
    have hn : news = [] := List.eq_nil_of_length_eq_zero (by simpa using hr.1)
    subst hn
    simp at hu
   ·
    obtain ⟨b, o, h, _, hc⟩ := hr.2 (Nat.mul_pos h0 E.hsz)
    injection h with h
    subst h
    rw [add_none]
    exact hc j u hu
  obtain ⟨v', w', hrun, h2, h3, _⟩ := run_append_own (P := P) w W.heap.size t ty e i z size bytes E.ht hi hz hs hb E.hzs E.hsz v n xs hown ad m c news hr.1 hcells h1 h63 hbytes hW.size
  obtain ⟨x', rfl⟩ := ext_of_grown hW hown h3
  exact ⟨v', x', hrun, h2, h3⟩

theorem wp_app {o : Oper} {a : Act} {K : Act → World → Prop} {Q : Exit → Act → World → Prop} (s x : Operand) {t e : TypeId} {z : Value} {size bytes : Nat}
  (ho : o.op = .call { callee := .builtin .append, args := #[s, x], argTypes := #[t, t] }) (E : El P t e z size bytes) (W : World) (hW : Ext W w) (v : Value) (n : Nat) (xs : List Value) (hs : a.eval s = v) (hown : w.ownsRow W.heap.size e size v n xs)
  (A : Option Addr) (m c : Nat) (news : List Value) (hx : a.eval x = .slice A m c) (hr : Rd w size A m news) (h1 : ∀ u ∈ news, u.oneCell' = true) (h63 : n + m ≤ maxLen) (hbytes : (n + m) * bytes ≤ 140737488355328)
  (h : ∀ v' x', Own W x' e size v' (n + m) (xs ++ news) → w.grownBy (ext W x') v.ownBlock → K (a.put o.dst v') (ext W x')) : o.wp P a w K Q := by
 obtain ⟨v', x', hrun, h2, h3⟩ := run_app (P := P) (ty := o.type) w E W hW v n xs hown A m c news hr h1 h63 hbytes
 unfold Oper.wp execOp
 simp only [ho, resolve, invoke, builtin, Sem.run_bind, Sem.run_pure, Result.andThen_ok, List.map_toArray, List.map_cons, List.map_nil, hs, hx, hrun]
 exact h v' x' h2 h3

theorem wpList_app {ops : Array Oper} {rest : List Oper} {o : Oper} {a : Act} {Q : Exit → Act → World → Prop} (hgd : o.guard = none) (s x : Operand) {t e : TypeId} {z : Value} {size bytes : Nat}
  (ho : o.op = .call { callee := .builtin .append, args := #[s, x], argTypes := #[t, t] }) (E : El P t e z size bytes) (W : World) (hW : Ext W w) (v : Value) (n : Nat) (xs : List Value) (hs : a.eval s = v) (hown : w.ownsRow W.heap.size e size v n xs)
  (A : Option Addr) (m c : Nat) (news : List Value) (hx : a.eval x = .slice A m c) (hr : Rd w size A m news) (h1 : ∀ u ∈ news, u.oneCell' = true) (h63 : n + m ≤ maxLen) (hbytes : (n + m) * bytes ≤ 140737488355328)
  (h : ∀ v' x', Own W x' e size v' (n + m) (xs ++ news) → w.grownBy (ext W x') v.ownBlock → wpList P ops Q rest (a.put o.dst v') (ext W x')) : wpList P ops Q (o :: rest) a w :=
 wpList_plain hgd fun _ hK => wp_app w s x ho E W hW v n xs hs hown A m c news hx hr h1 h63 hbytes fun v' x' h2 h3 => hK _ _ (h v' x' h2 h3)

end

theorem wpList_mk {P : Program} (w : World) {ops : Array Oper} {rest : List Oper} {o : Oper} {a : Act} {Q : Exit → Act → World → Prop} (hgd : o.guard = none) (l c : Operand) {t e : TypeId} {z : Value} {size bytes : Nat}
  (hop : o.op = Op.makeSlice t l c) (E : El P t e z size bytes) (W : World) (hW : Ext W w) (kl kc : IntKind) (C : Int) (n : Nat) (hl : a.eval l = .int kl 0) (hc : a.eval c = .int kc C) (hC : C = (n : Int)) (b2 : bytes * n ≤ 281474976710656) (b3 : n ≤ maxLen)
  (h : ∀ x', Own W x' e size (.slice (some ⟨w.heap.size, 0, none⟩) 0 n) 0 [] → wpList P ops Q rest (a.put o.dst (.slice (some ⟨w.heap.size, 0, none⟩) 0 n)) (ext W x')) : wpList P ops Q (o :: rest) a w := by
 obtain ⟨i, hi, hz, hs, hb⟩ := E.hi
 refine wpList_make_own w hgd l c t hop W.heap.size e i z size E.ht hi hz hs kl kc C n hl hc hC (by rw [hb]; exact b2) b3 hW.size fun w' h1 h2 => ?_
 obtain ⟨x', rfl⟩ := ext_of_below (Below.grown hW h2 hW.size (by simp))
 exact h x' h1

section
variable {W : World} {x : Add} {e size n : Nat} {v : Value} {xs : List Value}

theorem Own.form (h : Own W x e size v n xs) : ∃ A c, v = .slice A n c ∧ n ≤ c ∧ c ≤ maxLen := by
 rcases h.2 with ⟨rfl, rfl⟩ | ⟨g, cap, cur, rfl, hb, hg, hnc, hcm, hcs, htake⟩
 ·
  exact ⟨none, 0, rfl, Nat.le_refl _, Nat.zero_le _⟩
 ·
  exact ⟨_, _, rfl, hnc, hcm⟩

theorem Own.at {A : Option Addr} {c : Nat} (h : Own W x e size (.slice A n c) n xs) (hn : 0 < n) :
  ∃ g, A = some ⟨g, 0, none⟩ ∧ W.heap.size ≤ g ∧ g < W.heap.size + x.n ∧ (∀ j u, xs[j]? = some u → (extR W x).cell? ⟨g, j, none⟩ = some u) ∧ ∀ j, (extR W x).frozen? ⟨g, j, none⟩ = false := by
 rcases h.2 with ⟨h', h0⟩ | ⟨g, cap, cur, h', hb, hg, hnc, hcm, hcs, htake⟩
 ·
  omega
 ·
  simp only [Value.slice.injEq] at h'
  obtain ⟨rfl, _, rfl⟩ := h'
  have hlt := (Array.getElem?_eq_some_iff.1 hg).1
  rw [size_ext] at hlt
  refine ⟨g, rfl, hb, hlt, fun j u hu => ?_, fun j => h.frozenAt j⟩
  have := h.cells (g := g) rfl j u hu
  rw [add_none, Nat.zero_add] at this
  exact this

theorem Own.set {g c : Nat} (h : Own W x e size (.slice (some ⟨g, 0, none⟩) n c) n xs) (j : Nat) (u : Value) :
  ∃ x', (extR W x).setCell ⟨g, j, none⟩ u = ext W x' ∧ x'.n = x.n ∧ Own W x' e size (.slice (some ⟨g, 0, none⟩) n c) n (xs.set j u) ∧ (ext W x).grownBy (ext W x') (some g) ∧ (∀ i z, (xs.set j u)[i]? = some z → (extR W x').cell? ⟨g, i, none⟩ = some z) ∧ ∀ i, (extR W x').frozen? ⟨g, i, none⟩ = false := by
 obtain ⟨h1, h2⟩ := h.stored j u
 obtain ⟨x', hx'⟩ := ext_of_grown (W := W) (Ext.ex W x) h h2
 have ho : Own W x' e size (.slice (some ⟨g, 0, none⟩) n c) n (xs.set j u) := by unfold Own; rw [← hx']; exact h1
 refine ⟨x', hx', ?_, ho, ?_, fun i z hz => ?_, fun i => ho.frozenAt i⟩
 ·
  have : ((ext W x).setCell ⟨g, j, none⟩ u).heap.size = (ext W x).heap.size := by simp [World.setCell]
  rw [hx', size_ext, size_ext] at this
  omega
 ·
  rw [← hx']; exact h2
 ·
  have := ho.cells (g := g) rfl i z hz
  rw [add_none, Nat.zero_add] at this
  exact this
end

theorem Own.of_eq {W w : World} {x : Add} {e size n : Nat} {v : Value} {xs : List Value} (h : w.ownsRow W.heap.size e size v n xs) (hx : w = ext W x) : Own W x e size v n xs := by subst hx; exact h
theorem own_ext {w : World} {base e size n : Nat} {v : Value} {xs : List Value} (h : w.ownsRow base e size v n xs) (x : Add) : (ext w x).ownsRow base e size v n xs := by
 refine ⟨h.1, ?_⟩
 rcases h.2 with h2 | ⟨g, cap, cur, hv, hb, hg, r⟩
 ·
  exact .inl h2
 ·
  exact .inr ⟨g, cap, cur, hv, hb, by rw [block_ext _ _ _ (Array.getElem?_eq_some_iff.1 hg).1]; exact hg, r⟩
theorem own_base {W W' : World} {x : Add} {e size n : Nat} {v : Value} {xs : List Value} (h : Own W x e size v n xs) (hs : W'.heap.size = W.heap.size) : Own W' x e size v n xs := by
 refine ⟨h.1, ?_⟩
 rcases h.2 with h2 | ⟨g, cap, cur, hv, hb, hg, r⟩
 ·
  exact .inl h2
 ·
  refine .inr ⟨g, cap, cur, hv, by rw [hs]; exact hb, ?_, r⟩
  rw [← hg]
  show (W'.heap ++ x.objs)[g]? = (W.heap ++ x.objs)[g]?
  rw [Array.getElem?_append_right (by rw [hs]; exact hb), Array.getElem?_append_right hb, hs]
theorem own_mono {w : World} {base base' e size n : Nat} {v : Value} {xs : List Value} (h : w.ownsRow base' e size v n xs) (hb : base ≤ base') : w.ownsRow base e size v n xs := by
 refine ⟨h.1, ?_⟩
 rcases h.2 with h2 | ⟨g, cap, cur, hv, hg, r⟩
 ·
  exact .inl h2
 ·
  exact .inr ⟨g, cap, cur, hv, Nat.le_trans hb hg, r⟩
theorem cell_al {w : World} {g o : Nat} {u : Value} (h : w.cell? ⟨g, o, none⟩ = some u) {b : Obj} : (w.alloc b).cell? ⟨g, o, none⟩ = some u :=
 (Ext.al1 w b).cell' h
theorem cell_ex {w : World} {g o : Nat} {u : Value} (h : w.cell? ⟨g, o, none⟩ = some u) {x : Add} : (ext w x).cell? ⟨g, o, none⟩ = some u :=
 (Ext.ex w x).cell' h
theorem own_nil (W : World) (x : Add) (e size : Nat) : Own W x e size (.slice none 0 0) 0 [] := World.ownsRow_nil _ _ _ _
theorem oneCell_ic (l : List Int) : ∀ u ∈ ic l, u.oneCell' = true := by intro u hu; simp [ic] at hu; obtain ⟨a, _, rfl⟩ := hu; rfl
end Go.Proofs.YtdiaecgpjgdkdaaGreat
