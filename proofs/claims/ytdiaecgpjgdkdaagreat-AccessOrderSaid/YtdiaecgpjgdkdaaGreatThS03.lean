/- Lemmas for the rows: Base. -/
import Derived.Test.YtdiaecgpjgdkdaaGreatRows
import Derived.WalkKit
import Derived.WalkSpells
import Derived.WalkLawsBesides
import Derived.Deep.QuietTactic
import Derived.BigQuiet
import Derived.Lib.Hide
set_option linter.unusedSimpArgs false
set_option linter.unusedVariables false
namespace Go.Proofs.YtdiaecgpjgdkdaaGreat
open Go.RowKit

abbrev Ext (w w' : World) : Prop := Below w.heap.size w w'

theorem Ext.refl' (w : World) : Ext w w := Below.refl _ _
theorem Ext.tr {a b c : World} (h : Ext a b) (k : Ext b c) : Ext a c := h.trans (k.mono h.size)
theorem Ext.al {a b : World} (h : Ext a b) (o : Obj) : Ext a (b.alloc o) := Below.alloc h h.size o
theorem Ext.al1 (a : World) (o : Obj) : Ext a (a.alloc o) := Ext.al (Ext.refl' a) o
theorem Ext.dr {a b : World} (h : Ext a b) : Ext a b.drew := Below.drew h
theorem Ext.drN {a b : World} (h : Ext a b) (n : Nat) : Ext a (b.drewN n) := below_drewN h n
theorem Ext.st {a b : World} (h : Ext a b) {p : Addr} (hp : a.heap.size ≤ p.block) (u : Value) : Ext a (b.setCell p u) := Below.setCell h hp u

theorem cell_lt {w : World} {b o : Nat} {v : Value} (h : w.cell? ⟨b, o, none⟩ = some v) : b < w.heap.size := by
 rcases Nat.lt_or_ge b w.heap.size with hlt | hge
 ·
  exact hlt
 ·
  simp [World.cell?, Array.getElem?_eq_none hge] at h

theorem Ext.cell' {w w' : World} (h : Ext w w') {b o : Nat} {v : Value} (hc : w.cell? ⟨b, o, none⟩ = some v) : w'.cell? ⟨b, o, none⟩ = some v :=
 (Below.cell h (p := ⟨b, o, none⟩) (cell_lt hc)).trans hc

structure Add where
 objs : Array Obj
 drawn : Nat
instance : Inhabited Add := ⟨⟨#[], 0⟩⟩
def Add.n (x : Add) : Nat := x.objs.size
def ext (w : World) (x : Add) : World := { w with heap := w.heap ++ x.objs, drawn := x.drawn }

@[simp, go_sem] theorem size_ext (w : World) (x : Add) : (ext w x).heap.size = w.heap.size + x.n := by simp [ext, Add.n]
theorem block_ext (w : World) (x : Add) (b : Nat) (h : b < w.heap.size) : (ext w x).heap[b]? = w.heap[b]? := by
 show (w.heap ++ x.objs)[b]? = _
 rw [Array.getElem?_append_left h]
theorem Ext.ex (w : World) (x : Add) : Ext w (ext w x) := ⟨rfl, rfl, rfl, by simp [size_ext], fun k hk => block_ext w x k hk⟩
theorem Ext.ex' {a w : World} (h : Ext a w) (x : Add) : Ext a (ext w x) := h.tr (Ext.ex w x)
theorem Below.toExt {W w' : World} (h : Below W.heap.size W w') : ∃ x, w' = ext W x := by
 refine ⟨⟨w'.heap.extract W.heap.size w'.heap.size, w'.drawn⟩, ?_⟩
 have hh : w'.heap = W.heap ++ w'.heap.extract W.heap.size w'.heap.size := by
  apply Array.ext_getElem?
  intro i
  rcases Nat.lt_or_ge i W.heap.size with hi | hi
  ·
   rw [h.block i hi, Array.getElem?_append_left hi]
  ·
   rw [Array.getElem?_append_right hi, Array.getElem?_extract]
   have := h.size
   split
   ·
    congr 1; omega
   ·
    rw [Array.getElem?_eq_none (by omega)]
 obtain ⟨a, b, c, d, e⟩ := w'
 obtain ⟨a', b', c', d', e'⟩ := W
 have h1 := h.os; have h2 := h.tape; have h3 := h.output
 simp only at h1 h2 h3 hh
 subst h1 h2 h3
 simp only [ext]
 rw [← hh]
theorem Ext.get {W w' : World} (h : Ext W w') : ∃ x, w' = ext W x := Below.toExt h

def extR (w : World) (x : Add) : World := ext w x
@[go_sem] theorem cell?_ext (w : World) (x : Add) (b o : Nat) : (ext w x).cell? ⟨b, o, none⟩ = if b < w.heap.size then w.cell? ⟨b, o, none⟩ else (extR w x).cell? ⟨b, o, none⟩ := by
 split
 ·
  exact World.cell?_of_block (block_ext w x b ‹_›)
 ·
  rfl
def fzo (r : Bool) : Option Bool → Bool | some b => b | none => r
@[go_sem] theorem fzo_some (r b : Bool) : fzo r (some b) = b := rfl
@[go_sem] theorem frozen?_ext (w : World) (x : Add) (b o : Nat) : (ext w x).frozen? ⟨b, o, none⟩ = fzo ((extR w x).frozen? ⟨b, o, none⟩) (if b < w.heap.size then some (w.frozen? ⟨b, o, none⟩) else none) := by
 split
 ·
  exact World.frozen?_of_block (block_ext w x b ‹_›)
 ·
  rfl
theorem setCell_ext (w : World) (x : Add) (b o : Nat) (v : Value) (h : b < w.heap.size) : (ext w x).setCell ⟨b, o, none⟩ v = ext (w.setCell ⟨b, o, none⟩ v) x := by
 simp only [World.setCell, ext]
 congr 1
 apply Array.ext_getElem?
 intro i
 rw [Array.getElem?_modify]
 rcases Nat.lt_or_ge i w.heap.size with hi | hi
 ·
  rw [Array.getElem?_append_left hi, Array.getElem?_append_left (by simpa using hi), Array.getElem?_modify]
 ·
  rw [if_neg (by omega), Array.getElem?_append_right hi, Array.getElem?_append_right (by simpa using hi)]
  simp
@[go_sem] theorem setCell_ext_ite (w : World) (x : Add) (b o : Nat) (v : Value) : (ext w x).setCell ⟨b, o, none⟩ v = if b < w.heap.size then ext (w.setCell ⟨b, o, none⟩ v) x else (extR w x).setCell ⟨b, o, none⟩ v := by
 split
 ·
  exact setCell_ext w x b o v ‹_›
 ·
  rfl

def allocR (w : World) (o : Obj) : World := w.alloc o
@[go_sem low] theorem cell?_alloc_ite (w : World) (o : Obj) (n i : Nat) : (w.alloc o).cell? ⟨n, i, none⟩ = if n < w.heap.size then w.cell? ⟨n, i, none⟩ else (allocR w o).cell? ⟨n, i, none⟩ := by
 split
 ·
  exact World.cell?_alloc_past o n i ‹_›
 ·
  rfl
@[go_sem low + 1] theorem cell?_alloc_ite2 (w : World) (c : Array Value) (t : TypeId) (n i : Nat) : (w.alloc (.cells c t)).cell? ⟨n, i, none⟩ = if n < w.heap.size then w.cell? ⟨n, i, none⟩ else if n = w.heap.size then c[i]? else (allocR w (.cells c t)).cell? ⟨n, i, none⟩ := by
 split
 ·
  exact World.cell?_alloc_past _ n i ‹_›
 ·
  split
  ·
   exact World.cell?_alloc_at c t n i ‹_›
  ·
   rfl
@[go_sem low] theorem frozen?_alloc_ite (w : World) (o : Obj) (n i : Nat) : (w.alloc o).frozen? ⟨n, i, none⟩ = fzo ((allocR w o).frozen? ⟨n, i, none⟩) (if n < w.heap.size then some (w.frozen? ⟨n, i, none⟩) else none) := by
 split
 ·
  exact World.frozen?_alloc_past o n i ‹_›
 ·
  rfl
@[go_sem low] theorem setCell_alloc_ite (w : World) (o : Obj) (n i : Nat) (v : Value) : (w.alloc o).setCell ⟨n, i, none⟩ v = if n < w.heap.size then (w.setCell ⟨n, i, none⟩ v).alloc o else (allocR w o).setCell ⟨n, i, none⟩ v := by
 split
 ·
  exact World.setCell_alloc_past o n i v ‹_›
 ·
  rfl

@[go_sem] theorem setCell_drewN (w : World) (n : Nat) (a : Addr) (v : Value) : (w.drewN n).setCell a v = (w.setCell a v).drewN n := by
 induction n generalizing w with
 | zero => rfl
 | succ n ih => show ((w.drewN n).drew).setCell a v = ((w.setCell a v).drewN n).drew; rw [← ih]; rfl

def Rd (w : World) (sz : Nat) (A : Option Addr) (n : Nat) (xs : List Value) : Prop :=
 xs.length = n * sz ∧ (0 < n * sz → ∃ b o, A = some ⟨b, o, none⟩ ∧ b < w.heap.size ∧ ∀ j u, xs[j]? = some u → w.cell? ⟨b, o + j, none⟩ = some u)

theorem Rd.ext {w w' : World} {sz n : Nat} {A : Option Addr} {xs : List Value} (h : Rd w sz A n xs) (e : Ext w w') : Rd w' sz A n xs := by
 refine ⟨h.1, fun hn => ?_⟩
 obtain ⟨b, o, hA, hb, hc⟩ := h.2 hn
 exact ⟨b, o, hA, Nat.lt_of_lt_of_le hb e.size, fun j u hu => e.cell' (hc j u hu)⟩

theorem Rd.nil {w : World} {sz : Nat} {A : Option Addr} : Rd w sz A 0 [] := ⟨by simp, fun h => by simp at h⟩

def pc (l : List (Int × Int)) : List Value := l.flatMap fun s => [.int .i64 s.1, .int .i64 s.2]
def ic (l : List Int) : List Value := l.map (Value.int .i64)
theorem Rd.int {w : World} {A : Option Addr} {l : List Int} {n : Nat} (h : Rd w 1 A n (ic l)) {k : Nat} (hk : k < l.length) :
  ∃ b o, A = some ⟨b, o, none⟩ ∧ b < w.heap.size ∧ w.cell? ⟨b, o + k, none⟩ = some (.int .i64 l[k]) := by
 have hl := h.1
 obtain ⟨b, o, hA, hb, hc⟩ := h.2 (by simp [ic] at hl; omega)
 exact ⟨b, o, hA, hb, hc k _ (by simp [ic, hk])⟩

theorem ex_ {a b : World} (h : Ext a b := by repeat (first | exact Ext.refl' _ | assumption | apply Ext.ex' | apply Ext.al | apply Ext.drN | apply Ext.dr)) : Ext a b := h
theorem gA {α : Type _} {l : List α} {i : Nat} : l.toArray[i]? = l[i]? := List.getElem?_toArray
theorem gS {α : Type _} {a : α} {l : List α} {i : Nat} : (a :: l)[i + 1]? = l[i]? := List.getElem?_cons_succ
theorem gZ {α : Type _} {a : α} {l : List α} : (a :: l)[0]? = some a := List.getElem?_cons_zero
theorem pA {α : Type _} {l : List α} {i : Nat} {a : α} : l.toArray.setIfInBounds i a = (l.set i a).toArray := List.setIfInBounds_toArray _ _ _
theorem pZ {α : Type _} {a b : α} {l : List α} : (a :: l).set 0 b = b :: l := List.set_cons_zero
theorem pS {α : Type _} {a b : α} {l : List α} {i : Nat} : (a :: l).set (i + 1) b = a :: l.set i b := List.set_cons_succ
end Go.Proofs.YtdiaecgpjgdkdaaGreat
