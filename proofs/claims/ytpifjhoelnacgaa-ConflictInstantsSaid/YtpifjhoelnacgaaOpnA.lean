/- Regions of chapter 46 (api.Access), opened. -/
import Derived.Test.YtpifjhoelnacgaaGop
import Derived.Test.YtpifjhoelnacgaaOpnV
import Derived.Test.YtpifjhoelnacgaaCfA
set_option linter.unusedSimpArgs false
set_option linter.unusedVariables false
namespace Go.Proofs.Ytpifjhoelnacgaa
open Go.ChangeShapes Go.WideShapes Go.ChangeAt Go.RowKit Go.Joins Go.Deep

theorem opnAcc : Opn Try.prog 29 3 ac (fun _ a => a.1.size ≤ maxLen) :=
  (Opn.struct Try.underlying29 (Flds.cons (Opn.str Try.underlying9) rfl (by kernel_rfl) (Flds.one opnPer rfl (by kernel_rfl))) (by kernel_rfl)).as (fun a => a) (fun _ => rfl) (fun _ => rfl) (fun _ _ h => h.1)
theorem opnAccs : Opn Try.prog 22 1 (encS (α := Acc)) (memS 3 ac (fun _ a => a.1.size ≤ maxLen)) := Opn.slice Try.underlying22 opnAcc (by kernel_rfl) (by decide)
end Go.Proofs.Ytpifjhoelnacgaa
