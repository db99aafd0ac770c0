/- Maps from tables to periods in memory: under construction, half way, done. -/
import Derived.Test.YtpifjhoelnacgaaGreatCfA
import Derived.Test.YtpifjhoelnacgaaGreatOw2
import Derived.Test.YtpifjhoelnacgaaGreatFen
import Derived.Sort.KeysCollected
set_option linter.unusedSimpArgs false
set_option linter.unusedVariables false
namespace Go.Proofs.YtpifjhoelnacgaaGreat
open Go.RowKit Go.Maps

theorem row_formG {W : World} {base e size n : Nat} {v : Value} {xs : List Value} (h : W.ownsRow base e size v n xs) : ∃ A c, v = .slice A n c ∧ n ≤ c := by
  rcases h.2 with ⟨rfl, rfl⟩ | ⟨g, cap, cur, rfl, hb, hg, hnc, _⟩
  · exact ⟨none, 0, rfl, Nat.le_refl _⟩
  · exact ⟨_, _, rfl, hnc⟩
def nilS : Value := .slice none 0 0
theorem keyT : Keyed Tryz.prog 9 := string_keyed Tryz.underlying9
theorem key_mk {s : ByteArray} (h : s.size ≤ maxLen) : keyOf Tryz.prog 9 (.string s) = some (.string s.data.toList) := by
  simp [keyOf, Tryz.underlying9, mapKey, h]
/-- a store's step: append, with where the row then lies -/
theorem step_app2 {P : Program} (w : World) {ops : Array Oper} {o : Oper} {a : Act} {K : Act → World → Prop} {Q : Exit → Act → World → Prop} {C : Prop} (hgd : o.guard = none) (s x : Operand) {t e : TypeId} {z : Value} {size bytes : Nat}
    (ho : o.op = .call { callee := .builtin .append, args := #[s, x], argTypes := #[t, t] }) (E : El P t e z size bytes) (W : World) (hW : Ext W w) (v : Value) (n : Nat) (xs : List Value) (hs : a.eval s = v) (hown : w.ownsRow W.heap.size e size v n xs)
    (A : Option Addr) (m c : Nat) (news : List Value) (hx : a.eval x = .slice A m c) (hr : Rd w size A m news) (h1 : ∀ u ∈ news, u.oneCell' = true) (h63 : n + m ≤ maxLen) (hbytes : (n + m) * bytes ≤ 140737488355328)
    (h : ∀ v' x', Own W x' e size v' (n + m) (xs ++ news) → w.grownBy (ext W x') v.ownBlock → (∀ g, v'.ownBlock = some g → v.ownBlock = some g ∨ w.heap.size ≤ g) → K (a.put o.dst v') (ext W x')) : if Region.wanted o (yielded ops a.tmps) = true then Oper.wp P o a w K Q else C := by
  have hw : Region.wanted o (yielded ops a.tmps) = true := by simp [Region.wanted, hgd]
  rw [if_pos hw]
  exact wp_app2 w s x ho E W hW v n xs hs hown A m c news hx hr h1 h63 hbytes h
theorem gcell {w w' : World} {row : Option Nat} (hg : w.grownBy w' row) {b o : Nat} {v : Value} (hb : b < w.heap.size) (hne : row ≠ some b) (h : w.cell? ⟨b, o, none⟩ = some v) : w'.cell? ⟨b, o, none⟩ = some v :=
  (World.cell?_of_block (hg.block b hb (fun e => hne e.symm))).trans h
/-- a row that can be read stays so where no block of cells turns -/
theorem Rd.kept {w w' : World} {row : Option Nat} (hg : w.grownBy w' row) (hr : ∀ r, row = some r → ∃ o : Obj, w.heap[r]? = some o ∧ o.isCells = false) {sz n : Nat} {A : Option Addr} {xs : List Value} (h : Rd w sz A n xs) : Rd w' sz A n xs := by
  refine ⟨h.1, fun hn => ?_⟩
  obtain ⟨b, o, hA, hb, hc⟩ := h.2 hn
  refine ⟨b, o, hA, Nat.lt_of_lt_of_le hb hg.size, fun j u hu => gcell hg hb (fun e => ?_) (hc j u hu)⟩
  obtain ⟨ob, ho, hoc⟩ := hr b e
  have := hc j u hu
  unfold World.cell? at this
  rw [ho] at this
  cases ob <;> simp [Obj.isCells] at hoc this
theorem map_cells {w : World} {P : Program} {k : TypeId} {R : Value → Option (DataW Value × List MemPlace)} {b n : Nat} {D : DataW Value} (h : w.ownsMap P k R b n D) : ∀ r, some b = some r → ∃ o : Obj, w.heap[r]? = some o ∧ o.isCells = false := by
  rintro r ⟨rfl⟩
  obtain ⟨es, clock, hb, _⟩ := h
  exact ⟨_, hb, rfl⟩

theorem sameKey_self' (t : List UInt8) : (Lit.string t).sameKey (.string t) = true := WideAt.sameKey_self (by trivial)
/-- under construction: each table's row is the map's own -/
structure Groups (w : World) (base : Nat) (D : DataW Value) (G : List UInt8 → List (Int × Int)) : Prop where
  isMap : IsMap D
  row : ∀ t, ∃ v, D.atKey (.string t) (.held nilS) = .held v ∧ w.ownsRow base 30 2 v (G t).length (pc (G t))
  apart : ∀ t t' v v' g, t ≠ t' → D.atKey (.string t) (.held nilS) = .held v → D.atKey (.string t') (.held nilS) = .held v' → v.ownBlock = some g → v'.ownBlock ≠ some g
  has : ∀ t, Maps.has D (.string t) = decide (G t ≠ [])
theorem Groups.kept {w w' : World} {base : Nat} {D : DataW Value} {G : List UInt8 → List (Int × Int)} {row : Option Nat} (h : Groups w base D G) (hg : w.grownBy w' row) (hr : ∀ r, row = some r → ∃ o : Obj, w.heap[r]? = some o ∧ o.isCells = false) : Groups w' base D G :=
  ⟨h.isMap, fun t => by obtain ⟨v, h1, h2⟩ := h.row t; exact ⟨v, h1, row_kept hg hr h2⟩, h.apart, h.has⟩
theorem Groups.ext {w w' : World} {base : Nat} {D : DataW Value} {G : List UInt8 → List (Int × Int)} (h : Groups w base D G) (e : Ext w w') : Groups w' base D G := h.kept (ext_grown e) (fun _ e => by cases e)
theorem Groups.start (w : World) (base : Nat) : Groups w base (.map []) (fun _ => []) :=
  ⟨isMap_empty, fun t => ⟨nilS, rfl, World.ownsRow_nil _ _ _ _⟩, fun t t' v v' g _ h1 _ hg => by
    have : v = nilS := by have : DataW.held nilS = DataW.held v := h1; injection this with h; exact h.symm
    subst this; simp [nilS, Value.ownBlock] at hg, fun t => by simp; rfl⟩
theorem Groups.put {w w' : World} {base : Nat} {D : DataW Value} {G : List UInt8 → List (Int × Int)} (h : Groups w base D G) {t : List UInt8} {v v' : Value} {p : Int × Int} (hv : D.atKey (.string t) (.held nilS) = .held v) (hg : w.grownBy w' v.ownBlock)
    (hown : w'.ownsRow base 30 2 v' ((G t).length + 1) (pc (G t) ++ [.int .i64 p.1, .int .i64 p.2])) (hb : ∀ g, v'.ownBlock = some g → v.ownBlock = some g ∨ w.heap.size ≤ g) :
    Groups w' base (D.put (.string t) (.held v')) (fun s => if s = t then G s ++ [p] else G s) := by
  have hoth : ∀ s, s ≠ t → (D.put (.string t) (.held v')).atKey (.string s) (.held nilS) = D.atKey (.string s) (.held nilS) := fun s hs => atKey_put_other (by simpa using hs) _ _
  have hsame : (D.put (.string t) (.held v')).atKey (.string t) (.held nilS) = .held v' := atKey_put_same h.isMap (by trivial) _ _
  have hlow : ∀ s u, D.atKey (.string s) (.held nilS) = .held u → ∀ g, u.ownBlock = some g → g < w.heap.size := fun s u hu g hgu => by
    obtain ⟨u', h1, h2⟩ := h.row s
    rw [hu] at h1
    injection h1 with h1
    subst h1
    exact (row_block h2 hgu).2.1
  refine ⟨h.isMap.put _ _, fun s => ?_, fun s s' u u' g hss hu hu' hgu => ?_, fun s => ?_⟩
  · by_cases hs : s = t
    · subst hs
      refine ⟨v', hsame, ?_⟩
      rw [if_pos rfl]
      simpa [pc] using hown
    · obtain ⟨u, h1, h2⟩ := h.row s
      refine ⟨u, (hoth s hs).trans h1, ?_⟩
      rw [if_neg hs]
      refine h2.kept hg ?_
      cases hu : u.ownBlock with
      | none => exact .inl rfl
      | some g =>
        refine .inr fun e => ?_
        exact h.apart s t u v g hs h1 hv hu e.symm
  · by_cases hs : s = t
    · subst hs
      rw [hsame] at hu
      injection hu with hu
      subst hu
      rw [hoth s' (Ne.symm hss)] at hu'
      rcases hb g hgu with h1 | h1
      · exact h.apart s s' v u' g hss hv hu' h1
      · intro e
        have := hlow s' u' hu' g e
        omega
    · rw [hoth s hs] at hu
      by_cases hs' : s' = t
      · subst hs'
        rw [hsame] at hu'
        injection hu' with hu'
        subst hu'
        intro e
        rcases hb g e with h1 | h1
        · exact h.apart s s' u v g hss hu hv hgu h1
        · have := hlow s u hu g hgu
          omega
      · rw [hoth s' hs'] at hu'
        exact h.apart s s' u u' g hss hu hu' hgu
  · by_cases hs : s = t
    · subst hs
      rw [has_put_same h.isMap (by trivial)]
      simp
    · rw [has_put_other (by simpa using hs), h.has s, if_neg hs]
/-- each table's row can be read: F t -/
def MapD (w : World) (D : DataW Value) (F : List UInt8 → List (Int × Int)) : Prop :=
  IsMap D ∧ (∀ t, ∃ A n c, D.atKey (.string t) (.held nilS) = .held (.slice A n c) ∧ n = (F t).length ∧ Rd w 2 A n (pc (F t)))
theorem MapD.kept {w w' : World} {D : DataW Value} {F : List UInt8 → List (Int × Int)} {row : Option Nat} (h : MapD w D F) (hg : w.grownBy w' row) (hr : ∀ r, row = some r → ∃ o : Obj, w.heap[r]? = some o ∧ o.isCells = false) : MapD w' D F :=
  ⟨h.1, fun t => by obtain ⟨A, n, c, h1, h2, h3⟩ := h.2 t; exact ⟨A, n, c, h1, h2, h3.kept hg hr⟩⟩
theorem MapD.ext {w w' : World} {D : DataW Value} {F : List UInt8 → List (Int × Int)} (h : MapD w D F) (e : Ext w w') : MapD w' D F := h.kept (ext_grown e) (fun _ e => by cases e)
theorem MapD.put {w : World} {D : DataW Value} {F F' : List UInt8 → List (Int × Int)} (h : MapD w D F) {t : List UInt8} {A : Option Addr} {n c : Nat} (hn : n = (F' t).length) (hR : Rd w 2 A n (pc (F' t))) (hF : ∀ s, s ≠ t → F' s = F s) : MapD w (D.put (.string t) (.held (.slice A n c))) F' := by
  refine ⟨h.1.put _ _, fun s => ?_⟩
  by_cases hs : s = t
  · subst hs
    exact ⟨A, n, c, atKey_put_same h.1 (by trivial) _ _, hn, hR⟩
  · obtain ⟨A', n', c', h1, h2, h3⟩ := h.2 s
    rw [hF s hs]
    exact ⟨A', n', c', (atKey_put_other (by simpa using hs) _ _).trans h1, h2, h3⟩
theorem Groups.mapD {w : World} {base : Nat} {D : DataW Value} {G : List UInt8 → List (Int × Int)} (h : Groups w base D G) : MapD w D G :=
  ⟨h.isMap, fun t => by
    obtain ⟨v, h1, h2⟩ := h.row t
    obtain ⟨A, c, rfl, _⟩ := row_formG h2
    exact ⟨A, _, c, h1, rfl, Rd.of_own h2⟩⟩
/-- a map from tables to periods -/
def MapR (w : World) (b N : Nat) (F : List UInt8 → List (Int × Int)) : Prop :=
  ∃ D, w.ownsMap Tryz.prog 9 heldR b N D ∧ MapD w D F ∧ ∀ t, Maps.has D (.string t) = decide (F t ≠ [])
theorem MapR.ext {w w' : World} {b N : Nat} {F : List UInt8 → List (Int × Int)} (h : MapR w b N F) (e : Ext w w') : MapR w' b N F := by
  obtain ⟨D, h1, h2, h3⟩ := h
  exact ⟨D, h1.kept (ext_grown e) (by simp), h2.ext e, h3⟩
theorem ofF_nil {g : List (Int × Int)} (h : ∀ p ∈ g, pvB p = true) : decide (ofF g ≠ []) = decide (g ≠ []) := by
  cases g with
  | nil => rfl
  | cons p g =>
    have : inL (ofF (p :: g)) p.1 = true := by rw [ofF_in]; exact inL_iff.2 ⟨p, by simp, inP_self (h p (by simp))⟩
    have hne : ofF (p :: g) ≠ [] := fun e => by rw [e] at this; cases this
    simp [hne]
theorem perV_valid (l : List Acc) (t : List UInt8) : ∀ p ∈ perV l t, pvB p = true := by
  intro p hp
  obtain ⟨a, ha, rfl⟩ := List.mem_map.1 hp
  have := (List.mem_filter.1 ha).2
  simp at this
  exact this.2
end Go.Proofs.YtpifjhoelnacgaaGreat
