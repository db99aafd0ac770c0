/- Rows of values as arguments, opened. -/
import Derived.Test.YtahmkinppighkaaGop
import Derived.Test.YtahmkinppighkaaVrw
set_option linter.unusedSimpArgs false
set_option linter.unusedVariables false
namespace Go.Proofs.Ytahmkinppighkaa
open Go.ChangeShapes Go.WideShapes Go.ChangeAt Go.RowKit Go.Joins Go.Deep

theorem opnInt : Opn Try.prog 3 1 (fun a : Int => [.int .i64 a]) (fun _ _ => True) :=
  (Opn.int Try.underlying3).as (fun a => a) (fun _ => rfl) (fun _ => rfl) (fun _ _ _ => trivial)
theorem opnVa : Opn Try.prog 24 3 vc (fun _ v => v.t.size ≤ maxLen) :=
  (Opn.struct Try.underlying24 (Flds.cons opnInt rfl (by kernel_rfl) (Flds.cons opnInt rfl (by kernel_rfl) (Flds.one (Opn.str Try.underlying9) rfl (by kernel_rfl)))) (by kernel_rfl)).as
    (fun a => (⟨a.1, a.2.1, a.2.2⟩ : Va)) (fun _ => rfl) (fun _ => rfl) (fun _ _ h => h.2.2)
theorem opnRow : Opn Try.prog 22 1 (encS (α := Va)) (memS 3 vc (fun _ v => v.t.size ≤ maxLen)) := Opn.slice Try.underlying22 opnVa (by kernel_rfl) (by decide)
end Go.Proofs.Ytahmkinppighkaa
