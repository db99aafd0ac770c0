/- Boxes and rectangles of chapter 31, opened. -/
import Derived.Test.YtahmkinppighkaaGop
import Derived.Test.YtahmkinppighkaaTrA
set_option linter.unusedSimpArgs false
set_option linter.unusedVariables false
namespace Go.Proofs.Ytahmkinppighkaa
open Go.ChangeShapes Go.WideShapes Go.ChangeAt Go.RowKit Go.Joins Go.Deep

set_option maxRecDepth 100000 in
theorem opnIntX : Opn Try.prog 3 1 (fun a : Int => [.int .i64 a]) (fun _ a => (Lit.int .i64 a).wf = true) := Opn.int Try.underlying3
set_option maxRecDepth 100000 in
theorem opnPerX : Opn Try.prog 41 2 (fun p : Int × Int => [.int .i64 p.1, .int .i64 p.2]) (fun _ _ => True) :=
  (Opn.struct Try.underlying41 (Flds.cons opnIntX rfl (by kernel_rfl) (Flds.one opnIntX rfl (by kernel_rfl))) (by kernel_rfl)).as (fun a => a) (fun _ => rfl) (fun _ => rfl) (fun _ _ _ => trivial)
set_option maxRecDepth 100000 in
theorem opnRectX : Opn Try.prog 43 4 (fun r : Rct => [.int .i64 r.1.1, .int .i64 r.1.2, .int .i64 r.2.1, .int .i64 r.2.2]) (fun _ _ => True) :=
  (Opn.struct Try.underlying43 (Flds.cons opnPerX rfl (by kernel_rfl) (Flds.one opnPerX rfl (by kernel_rfl))) (by kernel_rfl)).as (fun a => a) (fun _ => rfl) (fun _ => rfl) (fun _ _ _ => trivial)
set_option maxRecDepth 100000 in
theorem opnBoxX : Opn Try.prog 52 5 encX (fun _ b => (Lit.int .i64 b.2).wf = true) :=
  (Opn.struct Try.underlying52 (Flds.cons opnRectX rfl (by kernel_rfl) (Flds.one opnIntX rfl (by kernel_rfl))) (by kernel_rfl)).as (fun a => a) (fun _ => rfl) (fun _ => rfl) (fun _ _ h => h.2)
set_option maxRecDepth 100000 in
theorem opnBoxes : Opn Try.prog 39 1 (encS (α := Bxs)) (memS 5 encX fun _ b => (Lit.int .i64 b.2).wf = true) :=
  Opn.slice Try.underlying39 opnBoxX (by kernel_rfl) (by decide)
set_option maxRecDepth 100000 in
theorem open_rect {H : Type} {enc : TypeId × Value → H} {w : World} {r : Reach} {b0 : Nat} {v : Value} {d : DataW H} {p : List MemPlace}
    (hv : Value.okWide Try.prog w r b0 43 v) (h : DataW.Trod enc Try.prog w 0 (fun _ => true) true 43 v d p) : ∃ x : Rct, v = rx x := by
  obtain ⟨a, rfl, _⟩ := opnRectX.agg Try.underlying43 hv h
  exact ⟨a, rfl⟩
theorem len_le {n c : Nat} (h : n ≤ c) (k : c ≤ maxLen) : n ≤ 9223372036854775807 := Nat.le_trans h k
end Go.Proofs.Ytahmkinppighkaa
