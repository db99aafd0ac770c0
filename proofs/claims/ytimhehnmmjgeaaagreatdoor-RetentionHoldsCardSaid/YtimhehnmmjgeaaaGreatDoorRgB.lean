/- The contracts of the reference of chapter 5: Slice, Section, times, Contains, Same, Overlaps; and of the program: Contains, Slice, Overlaps. -/
import Derived.Test.YtimhehnmmjgeaaaGreatDoorRgA
set_option linter.unusedSimpArgs false
set_option linter.unusedVariables false
namespace Go.Proofs.YtimhehnmmjgeaaaGreatDoor
open Go.RowKit


theorem inR_drop {l : List Rct} {k : Nat} (h : k < l.length) (v t : Int) : inR (l.drop k) v t = ((rvB l[k] && (inP l[k].1 v && inP l[k].2 t)) || inR (l.drop (k + 1)) v t) := by
  rw [List.drop_eq_getElem_cons h]; unfold inR; rw [List.any_cons]
theorem held_rect : Tryz.prog.stoodInHeld 27 = false := by kernel_rfl
@[go_sem] theorem guard_rect : Tryz.prog.eqGuardType Tryz.prog.depth 27 = false := by kernel_rfl
theorem ne_r {a b : Rct} (h : (decide (a = b)) = false) : a ≠ b := by simpa using h
theorem eq_r {a b : Rct} (h : (decide (a = b)) = true) : a = b := by simpa using h
@[go_sem high] theorem neq_rect (a b : Rct) (w : World) : (binOp .neq 27 (.agg #[.int .i64 a.1.1, .int .i64 a.1.2, .int .i64 a.2.1, .int .i64 a.2.2]) (.agg #[.int .i64 b.1.1, .int .i64 b.1.2, .int .i64 b.2.1, .int .i64 b.2.2])).run Tryz.prog w = .ok (.bool (!decide (a = b))) w := by
  obtain ⟨⟨a1, a2⟩, ⟨a3, a4⟩⟩ := a
  obtain ⟨⟨b1, b2⟩, ⟨b3, b4⟩⟩ := b
  simp [go_sem, held_rect, held_period, Tryz.underlying27, Tryz.underlying25]
  by_cases h1 : a1 = b1 <;> by_cases h2 : a2 = b2 <;> by_cases h3 : a3 = b3 <;> by_cases h4 : a4 = b4 <;> simp [h1, h2, h3, h4]


def rovB (a b : Rct) : Bool := rvB a && rvB b && povB a.1 b.1 && povB a.2 b.2


end Go.Proofs.YtimhehnmmjgeaaaGreatDoor
