/- Trees in memory: nodes, what keeps them, how they turn. -/
import Derived.Test.YtdmbgimehepfaaaBtS2
set_option linter.unusedSimpArgs false
set_option linter.unusedVariables false
namespace Go.Proofs.Ytdmbgimehepfaaa
open Go.RowKit

abbrev TN : TypeId := 64
abbrev TP : TypeId := 59
abbrev TQ : TypeId := 52
abbrev TVA : TypeId := 57
abbrev TT : TypeId := 54
/-- the types of a tree's blocks -/
def TreeT (ty : TypeId) : Prop := ty = TN ∨ ty = TP ∨ ty = TQ ∨ ty = TT
theorem tva_no : ¬ TreeT TVA := by unfold TreeT; decide
/-- the key of a pair can be read; it lies in a block that no tree turns -/
def KOk (base : Nat) (w : World) (p : MP) : Prop :=
  p.n = p.key.length ∧ (p.key.length ≤ 1048576 ∧ p.n ≤ p.c) ∧ (0 < p.key.length → ∃ b o, p.A = some ⟨b, o, none⟩ ∧ b < w.heap.size ∧ (b < base ∨ ∃ c f, w.heap[b]? = some (.cells c TVA f)) ∧ ∀ j u, (vcl p.key)[j]? = some u → w.cell? ⟨b, o + j, none⟩ = some u)
theorem KOk.rd {base : Nat} {w : World} {p : MP} (h : KOk base w p) : Rd w 3 p.A p.key.length (vcl p.key) :=
  ⟨vcl_length _, fun hn => by
    obtain ⟨b, o, h1, h2, _, h4⟩ := h.2.2 (by omega)
    exact ⟨b, o, h1, h2, h4⟩⟩
/-- the blocks that turn: trees' blocks of old -/
structure Mut (base : Nat) (S : List Nat) (w w' : World) : Prop where
  os : w'.os = w.os
  tape : w'.tape = w.tape
  output : w'.output = w.output
  size : w.heap.size ≤ w'.heap.size
  same : ∀ b, b < w.heap.size → b ∉ S → w'.heap[b]? = w.heap[b]?
  old : ∀ b ∈ S, b < w.heap.size → base ≤ b
  typ : ∀ b ∈ S, ∀ c ty f, w.heap[b]? = some (.cells c ty f) → TreeT ty
theorem Mut.refl (base : Nat) (w : World) : Mut base [] w w := ⟨rfl, rfl, rfl, Nat.le_refl _, fun _ _ _ => rfl, fun b h => (by cases h), fun b h => (by cases h)⟩
theorem Mut.block {base : Nat} {S : List Nat} {w w' : World} (h : Mut base S w w') {b : Nat} {o : Obj} (hb : w.heap[b]? = some o) (hs : b ∉ S) : w'.heap[b]? = some o :=
  (h.same b (Array.getElem?_eq_some_iff.1 hb).1 hs).trans hb
theorem Mut.key {base : Nat} {S : List Nat} {w w' : World} (h : Mut base S w w') {p : MP} (hp : KOk base w p) : KOk base w' p := by
  refine ⟨hp.1, hp.2.1, fun hn => ?_⟩
  obtain ⟨b, o, h1, h2, h3, h4⟩ := hp.2.2 hn
  have hb : w'.heap[b]? = w.heap[b]? := h.same b h2 (fun hs => by
    rcases h3 with h3 | ⟨c, f, h3⟩
    · have := h.old b hs h2; omega
    · exact tva_no (h.typ b hs c _ f h3))
  refine ⟨b, o, h1, Nat.lt_of_lt_of_le h2 h.size, ?_, fun j u hu => ?_⟩
  · rcases h3 with h3 | ⟨c, f, h3⟩
    · exact .inl h3
    · exact .inr ⟨c, f, hb.trans h3⟩
  · rw [World.cell?_of_block (w := w) hb]; exact h4 j u hu
theorem KOk.ext {base : Nat} {w w' : World} {p : MP} (hp : KOk base w p) (h : Ext w w') : KOk base w' p := by
  refine ⟨hp.1, hp.2.1, fun hn => ?_⟩
  obtain ⟨b, o, h1, h2, h3, h4⟩ := hp.2.2 hn
  have hb : w'.heap[b]? = w.heap[b]? := h.block b h2
  refine ⟨b, o, h1, Nat.lt_of_lt_of_le h2 h.size, ?_, fun j u hu => h.cell' (h4 j u hu)⟩
  rcases h3 with h3 | ⟨c, f, h3⟩
  · exact .inl h3
  · exact .inr ⟨c, f, hb.trans h3⟩
/-- one after the other: what turns then had turned, or is new -/
theorem Mut.trans {base : Nat} {S T : List Nat} {w w' w'' : World} (h : Mut base S w w') (k : Mut base T w' w'') (ht : ∀ b ∈ T, b ∈ S ∨ w.heap.size ≤ b) : Mut base S w w'' :=
  ⟨k.os.trans h.os, k.tape.trans h.tape, k.output.trans h.output, Nat.le_trans h.size k.size, fun b hb hs => (k.same b (Nat.lt_of_lt_of_le hb h.size) (fun e => (ht b e).elim hs fun e => by omega)).trans (h.same b hb hs), h.old, h.typ⟩
theorem Mut.wide {base : Nat} {S T : List Nat} {w w' : World} (h : Mut base S w w') (hs : ∀ b ∈ S, b ∈ T) (h1 : ∀ b ∈ T, b < w.heap.size → base ≤ b) (h2 : ∀ b ∈ T, ∀ c ty f, w.heap[b]? = some (.cells c ty f) → TreeT ty) : Mut base T w w' :=
  ⟨h.os, h.tape, h.output, h.size, fun b hb hn => h.same b hb (fun e => hn (hs b e)), h1, h2⟩
theorem Mut.ofExt {base : Nat} {w w' : World} (h : Ext w w') : Mut base [] w w' :=
  ⟨h.os, h.tape, h.output, h.size, fun b hb _ => h.block b hb, fun b h => (by cases h), fun b h => (by cases h)⟩
theorem Mut.grown {base : Nat} {w w' : World} {row : Option Nat} (h : w.grownBy w' row) (hb : ∀ g, row = some g → base ≤ g) (ht : ∀ g, row = some g → ∀ c ty f, w.heap[g]? = some (.cells c ty f) → TreeT ty) : Mut base (match row with | some g => [g] | none => []) w w' := by
  refine ⟨h.os, h.tape, h.output, h.size, fun b hb hs => h.block b hb (fun e => ?_), fun b hs _ => ?_, fun b hs => ?_⟩
  · subst e; simp at hs
  · cases row with
    | none => cases hs
    | some g => simp at hs; subst hs; exact hb _ rfl
  · cases row with
    | none => cases hs
    | some g => simp at hs; subst hs; exact ht _ rfl
/-- a node in memory -/
structure NodeOk (base : Nat) (w : World) (t : MT) : Prop where
  hb : base ≤ t.r
  hp : w.heap[t.r]? = some (.cells #[t.vp, t.vk] TN (0, 0))
  op : w.ownsRow base TP 2 t.vp t.ps.length (mpl t.ps)
  ok : w.ownsRow base TQ 1 t.vk t.ks.length (ptl (t.ks.map MT.r))
/-- a tree of depth d in memory -/
def Good (base : Nat) (w : World) : Nat → MT → Prop
  | 0, t => NodeOk base w t
  | d + 1, t => NodeOk base w t ∧ ∀ k ∈ t.ks, Good base w d k
theorem Good.node {base : Nat} {w : World} : ∀ {d : Nat} {t : MT}, Good base w d t → NodeOk base w t
  | 0, _, h => h
  | _ + 1, _, h => h.1
theorem ob_mem {v : Value} {g : Nat} : g ∈ ob v ↔ v.ownBlock = some g := by
  unfold ob
  cases h : v.ownBlock with
  | none => simp
  | some b => simp; exact eq_comm
theorem own_sub {d : Nat} {t : MT} : ∀ b ∈ t.own, b ∈ foot d t := by
  intro b hb
  cases d with
  | zero => exact hb
  | succ d => exact List.mem_append_left _ hb
theorem foot_kid {d : Nat} {t k : MT} (hk : k ∈ t.ks) : ∀ b ∈ foot d k, b ∈ foot (d + 1) t := fun b hb =>
  List.mem_append_right _ (List.mem_flatMap.2 ⟨k, hk, hb⟩)
/-- what a node's blocks are -/
theorem NodeOk.old {base : Nat} {w : World} {t : MT} (h : NodeOk base w t) : ∀ b ∈ t.own, base ≤ b ∧ b < w.heap.size ∧ ∀ c ty f, w.heap[b]? = some (.cells c ty f) → TreeT ty := by
  intro b hb
  unfold MT.own at hb
  rcases List.mem_cons.1 hb with rfl | hb
  · exact ⟨h.hb, (Array.getElem?_eq_some_iff.1 h.hp).1, fun c ty f e => by rw [h.hp] at e; simp at e; exact .inl e.2.1.symm⟩
  · rcases List.mem_append.1 hb with hb | hb
    · obtain ⟨h1, h2⟩ := h.op.lt b (ob_mem.1 hb)
      obtain ⟨c0, h3⟩ : ∃ c0, w.heap[b]? = some (.cells c0 TP (0, 0)) := by
        rcases own_forms h.op with ⟨e, _, _⟩ | ⟨g, cap, cur, e, hB, _, _⟩
        · rw [e] at hb; simp [ob, Value.ownBlock] at hb
        · rw [e] at hb; simp [ob, Value.ownBlock] at hb; subst hb; exact ⟨_, hB.hp⟩
      exact ⟨h1, h2, fun c ty f e => by rw [h3] at e; simp at e; exact .inr (.inl e.2.1.symm)⟩
    · obtain ⟨h1, h2⟩ := h.ok.lt b (ob_mem.1 hb)
      obtain ⟨c0, h3⟩ : ∃ c0, w.heap[b]? = some (.cells c0 TQ (0, 0)) := by
        rcases own_forms h.ok with ⟨e, _, _⟩ | ⟨g, cap, cur, e, hB, _, _⟩
        · rw [e] at hb; simp [ob, Value.ownBlock] at hb
        · rw [e] at hb; simp [ob, Value.ownBlock] at hb; subst hb; exact ⟨_, hB.hp⟩
      exact ⟨h1, h2, fun c ty f e => by rw [h3] at e; simp at e; exact .inr (.inr (.inl e.2.1.symm))⟩
theorem Good.old {base : Nat} {w : World} : ∀ {d : Nat} {t : MT}, Good base w d t → ∀ b ∈ foot d t, base ≤ b ∧ b < w.heap.size ∧ ∀ c ty f, w.heap[b]? = some (.cells c ty f) → TreeT ty
  | 0, _, h, b, hb => NodeOk.old h b hb
  | d + 1, t, h, b, hb => by
    rcases List.mem_append.1 hb with hb | hb
    · exact NodeOk.old h.1 b hb
    · obtain ⟨k, hk, hb⟩ := List.mem_flatMap.1 hb
      exact (h.2 k hk).old b hb
/-- a node that nothing touched -/
theorem ownsRow_same {w w' : World} {base : Nat} {e : TypeId} {size : Nat} {v : Value} {n : Nat} {xs : List Value} (h : w.ownsRow base e size v n xs) (hs : ∀ g, v.ownBlock = some g → w'.heap[g]? = w.heap[g]?) : w'.ownsRow base e size v n xs := by
  refine ⟨h.1, ?_⟩
  rcases h.2 with h1 | ⟨g, cap, cur, rfl, hb, hg, h3⟩
  · exact .inl h1
  · exact .inr ⟨g, cap, cur, rfl, hb, (hs g rfl).trans hg, h3⟩
theorem NodeOk.same {base : Nat} {w w' : World} {t : MT} (h : NodeOk base w t) (hs : ∀ b ∈ t.own, w'.heap[b]? = w.heap[b]?) : NodeOk base w' t :=
  ⟨h.hb, (hs _ (by simp [MT.own])).trans h.hp, ownsRow_same h.op fun g hg => hs g (by simp [MT.own, ob_mem.2 hg]), ownsRow_same h.ok fun g hg => hs g (by simp [MT.own, ob_mem.2 hg])⟩
theorem Good.same {base : Nat} {w w' : World} : ∀ {d : Nat} {t : MT}, Good base w d t → (∀ b ∈ foot d t, w'.heap[b]? = w.heap[b]?) → Good base w' d t
  | 0, _, h, hs => NodeOk.same h hs
  | d + 1, t, h, hs => ⟨NodeOk.same h.1 fun b hb => hs b (List.mem_append_left _ hb), fun k hk => (h.2 k hk).same fun b hb => hs b (foot_kid hk b hb)⟩
theorem Good.mut {base : Nat} {w w' : World} {S : List Nat} {d : Nat} {t : MT} (h : Good base w d t) (m : Mut base S w w') (hd : ∀ b ∈ foot d t, b ∉ S) : Good base w' d t :=
  h.same fun b hb => m.same b (h.old b hb).2.1 (hd b hb)
theorem Good.ext {base : Nat} {w w' : World} {d : Nat} {t : MT} (h : Good base w d t) (e : Ext w w') : Good base w' d t := h.same fun b hb => e.block b (h.old b hb).2.1
end Go.Proofs.Ytdmbgimehepfaaa
