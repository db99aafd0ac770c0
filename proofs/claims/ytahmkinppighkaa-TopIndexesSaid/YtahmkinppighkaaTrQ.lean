/- The reference of packed trees: Build. -/
import Derived.Test.YtahmkinppighkaaTrO
import Derived.Test.YtahmkinppighkaaTrK
set_option linter.unusedSimpArgs false
set_option linter.unusedVariables false
namespace Go.Proofs.Ytahmkinppighkaa
open Go.RowKit


/-- a tree of the reference -/
abbrev treeg (wd : Int) (A : Option Addr) (n c : Nat) (r : Rct) (u v : Value) (d : Int) : Value := .agg #[.int .i64 wd, .slice A n c, .int .i64 r.1.1, .int .i64 r.1.2, .int .i64 r.2.1, .int .i64 r.2.2, u, v, .int .i64 d]
def RTree (w : World) (x : Value) (Lo : List Bxs) (root : Option Tr) (d : Int) : Prop :=
  ∃ wd A c r u v, x = treeg wd A Lo.length c r u v d ∧ Lo.length ≤ 1048576 ∧ Rd w 5 A Lo.length (bxl Lo) ∧ ((root = none ∧ Lo = []) ∨ ∃ t, root = some t ∧ Lo ≠ [] ∧ RM w t (nodc r u v)) ∧ (∃ A n c, u = .slice A n c) ∧ ∃ A n c, v = .slice A n c
theorem RTree.ext {w w' : World} {x : Value} {Lo : List Bxs} {root : Option Tr} {d : Int} (h : RTree w x Lo root d) (e : Ext w w') : RTree w' x Lo root d := by
  obtain ⟨wd, A, c, r, u, v, h1, h2, h3, h4, h5, h6⟩ := h
  refine ⟨wd, A, c, r, u, v, h1, h2, h3.ext e, ?_, h5, h6⟩
  rcases h4 with h | ⟨t, a, b, c⟩
  · exact .inl h
  · exact .inr ⟨t, a, b, c.ext e⟩
def oneR : List Tr × Nat → Option Tr × Nat | ([t], d) => (some t, d) | _ => (none, 0)
theorem one_root : ∀ (T : List Tr) (d : Nat) (h : 0 < T.length), T.length = 1 → oneR (T, d) = (some T[0], d)
  | [t], d, _, _ => rfl
  | [], d, h, _ => by simp at h
  | _ :: _ :: _, d, _, h => by simp at h
theorem rootF_eq (k : Nat) (L : List Bxs) : rootF k L = if L = [] then (none, 0) else oneR (buildF k (ordF L)) := by
  unfold rootF
  split
  · rfl
  · generalize buildF k (ordF L) = p
    obtain ⟨T, d⟩ := p
    match T with
    | [] => rfl
    | [t] => rfl
    | _ :: _ :: _ => rfl
def RBuildP (wd : Int) (L : List Bxs) (w : World) (e : Ending) (w' : World) : Prop :=
  ∃ x Lo root d, e = .returned (.tuple #[x, .int .i64 (errF wd L)]) ∧ Ext w w' ∧ RTree w' x Lo root d ∧ (errF wd L = 0 → Lo = ordF L ∧ root = (rootF wd.toNat L).1 ∧ d = ((rootF wd.toNat L).2 : Nat)) ∧ (errF wd L ≠ 0 → Lo = [] ∧ root = none ∧ d = 0)
/-- a level that reads so in every world which holds what this one holds, blocks b4 and b7 apart -/
def LvlR (b4 b7 : Nat) (W : World) (T : List Tr) (A : Option Addr) (css : List (List Value)) : Prop :=
  ∀ X : World, W.heap.size ≤ X.heap.size → (∀ k, k < W.heap.size → k ≠ b4 → k ≠ b7 → X.heap[k]? = W.heap[k]?) → Rd X 6 A T.length (List.flatten css) ∧ RMs X T css

end Go.Proofs.Ytahmkinppighkaa
