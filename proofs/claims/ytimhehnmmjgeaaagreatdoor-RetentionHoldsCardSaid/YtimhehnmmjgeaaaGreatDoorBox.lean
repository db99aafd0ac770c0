/- Three captured variables of a world: the world with them set. -/
import Derived.Test.YtimhehnmmjgeaaaGreatDoorOwn
import Derived.Sort.Row
import Derived.Deep.RegionHeld
set_option linter.unusedSimpArgs false
set_option linter.unusedVariables false
namespace Go.Proofs.YtimhehnmmjgeaaaGreatDoor
open Go.RowKit

def bx (W : World) (bo bl bt : Nat) (vo vl vt : Value) : World := ((W.setCell ⟨bo, 0, none⟩ vo).setCell ⟨bl, 0, none⟩ vl).setCell ⟨bt, 0, none⟩ vt
structure BxOk (W : World) (bo bl bt : Nat) : Prop where
  ho : bo < W.heap.size
  hl : bl < W.heap.size
  ht : bt < W.heap.size
  ol : bo ≠ bl
  ot : bo ≠ bt
  lt : bl ≠ bt
  co : (W.cell? ⟨bo, 0, none⟩).isSome = true
  cl : (W.cell? ⟨bl, 0, none⟩).isSome = true
  ct : (W.cell? ⟨bt, 0, none⟩).isSome = true
  fo : W.frozen? ⟨bo, 0, none⟩ = false
  fl : W.frozen? ⟨bl, 0, none⟩ = false
  ft : W.frozen? ⟨bt, 0, none⟩ = false
section
variable {W : World} {bo bl bt : Nat}
@[simp, go_sem] theorem size_bx (W : World) (bo bl bt : Nat) (vo vl vt : Value) : (bx W bo bl bt vo vl vt).heap.size = W.heap.size := by simp [bx]
theorem frozen_bx (W : World) (bo bl bt : Nat) (vo vl vt : Value) (a : Addr) : (bx W bo bl bt vo vl vt).frozen? a = W.frozen? a := by simp [bx]
theorem bx_o (h : BxOk W bo bl bt) (vo vl vt : Value) : (bx W bo bl bt vo vl vt).cell? ⟨bo, 0, none⟩ = some vo := by
  unfold bx
  rw [World.cell?_setCell_far _ _ _ _ (Ne.symm h.ot), World.cell?_setCell_far _ _ _ _ (Ne.symm h.ol)]
  exact World.cell?_setCell_same' _ _ _ h.co
theorem bx_l (h : BxOk W bo bl bt) (vo vl vt : Value) : (bx W bo bl bt vo vl vt).cell? ⟨bl, 0, none⟩ = some vl := by
  unfold bx
  rw [World.cell?_setCell_far _ _ _ _ (Ne.symm h.lt)]
  exact World.cell?_setCell_same' _ _ _ (by rw [World.cell?_setCell_far _ _ _ _ h.ol]; exact h.cl)
theorem bx_t (h : BxOk W bo bl bt) (vo vl vt : Value) : (bx W bo bl bt vo vl vt).cell? ⟨bt, 0, none⟩ = some vt := by
  unfold bx
  exact World.cell?_setCell_same' _ _ _ (by rw [World.cell?_setCell_far _ _ _ _ h.lt, World.cell?_setCell_far _ _ _ _ h.ot]; exact h.ct)
theorem bx_far (vo vl vt : Value) (g o : Nat) (h1 : g ≠ bo) (h2 : g ≠ bl) (h3 : g ≠ bt) : (bx W bo bl bt vo vl vt).cell? ⟨g, o, none⟩ = W.cell? ⟨g, o, none⟩ := by
  unfold bx
  rw [World.cell?_setCell_far _ _ _ _ (Ne.symm h3), World.cell?_setCell_far _ _ _ _ (Ne.symm h2), World.cell?_setCell_far _ _ _ _ (Ne.symm h1)]
theorem set_comm (W : World) (a b : Nat) (u v : Value) (hab : a ≠ b) : (W.setCell ⟨a, 0, none⟩ u).setCell ⟨b, 0, none⟩ v = (W.setCell ⟨b, 0, none⟩ v).setCell ⟨a, 0, none⟩ u := by
  simp only [World.setCell]
  congr 1
  apply Array.ext_getElem?
  intro i
  simp only [Array.getElem?_modify]
  by_cases h1 : a = i <;> by_cases h2 : b = i <;> simp [h1, h2] <;> omega
theorem set_again (W : World) (a : Nat) (u v : Value) : (W.setCell ⟨a, 0, none⟩ u).setCell ⟨a, 0, none⟩ v = W.setCell ⟨a, 0, none⟩ v := by
  rw [Sort.setCell_eq, Sort.setCell_eq, Sort.setCell_eq, Sort.mapBlock_mapBlock]
  refine Sort.mapBlock_congr _ _ _ _ fun c _ _ _ => ?_
  simp
theorem bx_so (h : BxOk W bo bl bt) (vo vl vt v : Value) : (bx W bo bl bt vo vl vt).setCell ⟨bo, 0, none⟩ v = bx W bo bl bt v vl vt := by
  unfold bx
  rw [set_comm _ _ _ _ _ (Ne.symm h.ot), set_comm _ _ _ _ _ (Ne.symm h.ol), set_again]
theorem bx_sl (h : BxOk W bo bl bt) (vo vl vt v : Value) : (bx W bo bl bt vo vl vt).setCell ⟨bl, 0, none⟩ v = bx W bo bl bt vo v vt := by
  unfold bx
  rw [set_comm _ _ _ _ _ (Ne.symm h.lt), set_again]
theorem bx_st (vo vl vt v : Value) : (bx W bo bl bt vo vl vt).setCell ⟨bt, 0, none⟩ v = bx W bo bl bt vo vl v := by
  unfold bx
  rw [set_again]
end
end Go.Proofs.YtimhehnmmjgeaaaGreatDoor
