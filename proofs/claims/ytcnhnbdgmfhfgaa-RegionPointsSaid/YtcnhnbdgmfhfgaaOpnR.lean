/- Rectangles, opened. -/
import Derived.Test.YtcnhnbdgmfhfgaaOpen
import Derived.Test.YtcnhnbdgmfhfgaaRgA
set_option linter.unusedSimpArgs false
set_option linter.unusedVariables false
namespace Go.Proofs.Ytcnhnbdgmfhfgaa
open Go.ChangeShapes Go.WideShapes Go.ChangeAt Go.RowKit Go.Joins Go.Deep

theorem rect_ints : IntCells Try.prog 36 4 :=
  have hp : IntCells Try.prog 34 2 := IntCells.two (k0 := 1) (k1 := 1) Try.underlying34 (IntCells.int Try.underlying3) (IntCells.int Try.underlying3) rfl rfl (by kernel_rfl) (by kernel_rfl) (by kernel_rfl)
  IntCells.two (k0 := 2) (k1 := 2) Try.underlying36 hp hp rfl rfl (by kernel_rfl) (by kernel_rfl) (by kernel_rfl)

set_option maxRecDepth 100000 in
theorem open_rect {H : Type} {enc : TypeId × Value → H} {w : World} {r : Reach} {b0 base : Nat} {spare : Nat → Bool} {held : Bool} {v : Value} {d : DataW H} {p : List MemPlace}
    (hv : Value.okWide Try.prog w r b0 36 v) (h : DataW.Trod enc Try.prog w base spare held 36 v d p) :
    ∃ (x : Rct), v = rr x := by
  obtain ⟨cs, rfl, hsz⟩ := okWide_struct Try.underlying36 hv
  obtain ⟨fuel, hf⟩ := h
  obtain ⟨zs, hz, hl⟩ := rect_ints hf
  match zs, hl with
  | [a, b, s, t], _ =>
    refine ⟨((a, b), (s, t)), ?_⟩
    obtain ⟨l⟩ := cs
    have hz' : l = [.int .i64 a, .int .i64 b, .int .i64 s, .int .i64 t] := hz
    subst hz'
    rfl

/-- lists of four ints as rectangles -/
def quads (ls : List (List Int)) : List Rct := ls.map fun z => ((z.getD 0 0, z.getD 1 0), (z.getD 2 0, z.getD 3 0))
theorem quads_rcl : ∀ (ls : List (List Int)), (∀ z ∈ ls, z.length = 4) → zc ls.flatten = rcl (quads ls)
  | [], _ => rfl
  | z :: ls, h => by
    have := quads_rcl ls (fun z hz => h z (by simp [hz]))
    match z, h z (by simp) with
    | [a, b, c, d], _ => simp [rcl, quads] at *; exact this
theorem quads_len (ls : List (List Int)) : (quads ls).length = ls.length := by simp [quads]

end Go.Proofs.Ytcnhnbdgmfhfgaa
