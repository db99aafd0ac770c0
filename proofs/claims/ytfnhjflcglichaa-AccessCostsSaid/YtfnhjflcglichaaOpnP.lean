/- A path, opened. -/
import Derived.Test.YtfnhjflcglichaaOpen
set_option linter.unusedSimpArgs false
set_option linter.unusedVariables false
namespace Go.Proofs.Ytfnhjflcglichaa
open Go.ChangeShapes Go.WideShapes Go.ChangeAt Go.RowKit Go.Joins Go.Deep

theorem wf_bounds {a : Int} (h : (Lit.int .i64 a).wf = true) : -9223372036854775808 ≤ a ∧ a ≤ 9223372036854775807 := by
  simp [Lit.wf] at h
  exact ⟨h.1, h.2⟩

theorem rect_ints : IntCells Try.prog 41 4 :=
  have hp : IntCells Try.prog 35 2 := IntCells.two (k0 := 1) (k1 := 1) Try.underlying35 (IntCells.int Try.underlying3) (IntCells.int Try.underlying3) rfl rfl (by kernel_rfl) (by kernel_rfl) (by kernel_rfl)
  IntCells.two (k0 := 2) (k1 := 2) Try.underlying41 hp hp rfl rfl (by kernel_rfl) (by kernel_rfl) (by kernel_rfl)

theorem six {cs : Array Value} (h : cs.size = 6) : ∃ a b c d e f, cs = #[a, b, c, d, e, f] := by
  obtain ⟨l⟩ := cs
  match l, h with
  | [a, b, c, d, e, f], _ => exact ⟨a, b, c, d, e, f, rfl⟩

theorem cells_path : Try.prog.cellsOf 43 = 6 := by kernel_rfl
theorem cells_int : Try.prog.cellsOf 3 = 1 := by kernel_rfl
theorem cells_values : Try.prog.cellsOf 39 = 1 := by kernel_rfl
theorem cells_rect : Try.prog.cellsOf 41 = 4 := by kernel_rfl

set_option maxRecDepth 100000 in
theorem open_path {H : Type} {enc : TypeId × Value → H} {w : World} {r : Reach} {b0 base : Nat} {spare : Nat → Bool} {held : Bool} {v : Value} {d : DataW H} {p : List MemPlace}
    (hv : Value.okWide Try.prog w r b0 43 v) (h : DataW.Trod enc Try.prog w base spare held 43 v d p) :
    ∃ (k : Int) (A : Option Addr) (n c : Nat) (a b s t : Int), v = .agg #[.int .i64 k, .slice A n c, .int .i64 a, .int .i64 b, .int .i64 s, .int .i64 t] ∧ n ≤ 9223372036854775807 := by
  obtain ⟨cs, rfl, hsz⟩ := okWide_struct Try.underlying43 hv
  obtain ⟨c0, c1, c2, c3, c4, c5, rfl⟩ := six (hsz.trans cells_path)
  obtain ⟨fuel, hf⟩ := h
  obtain ⟨y0, y1, y2, m, hx, _, h0, h1, h2⟩ := trod_struct3 Try.underlying43 hf
  rw [cells_int] at h0
  rw [cells_values] at h1
  rw [cells_rect] at h2
  simp [Value.cells] at h0 h1 h2
  obtain ⟨k, rfl, _, _⟩ := trod_i64 Try.underlying3 h0
  obtain ⟨zs, hz, hl⟩ := rect_ints h2
  obtain ⟨A, n, c, rfl, hn⟩ : ∃ A n c, c1 = .slice A n c ∧ n ≤ 9223372036854775807 := by
    rcases open_slice Try.underlying39 h1 with ⟨hcs, _⟩ | ⟨a, len, cap, m, n, D, Pl, hcs, hb, hl, hm, _⟩
    · simp at hcs
      exact ⟨_, _, _, hcs, by decide⟩
    · simp at hcs
      exact ⟨_, _, _, hcs, by unfold maxLen at hm; omega⟩
  match zs, hl with
  | [a, b, s, t], _ =>
    simp at hz
    obtain ⟨rfl, rfl, rfl, rfl⟩ := hz
    exact ⟨k, A, n, c, a, b, s, t, rfl, hn⟩
end Go.Proofs.Ytfnhjflcglichaa
