/- Regions of chapter 46 (api.Access), opened. -/
import Derived.Test.YtpifjhoelnacgaaGreatGop
import Derived.Test.YtpifjhoelnacgaaGreatOpnV
import Derived.Test.YtpifjhoelnacgaaGreatCfA
set_option linter.unusedSimpArgs false
set_option linter.unusedVariables false
namespace Go.Proofs.YtpifjhoelnacgaaGreat
open Go.ChangeShapes Go.WideShapes Go.ChangeAt Go.RowKit Go.Joins Go.Deep

theorem opnAcc : Opn Tryz.prog 32 3 ac (fun _ a => a.1.size ≤ maxLen) :=
  (Opn.struct Tryz.underlying32 (Flds.cons (Opn.str Tryz.underlying9) rfl (by kernel_rfl) (Flds.one opnPer rfl (by kernel_rfl))) (by kernel_rfl)).as (fun a => a) (fun _ => rfl) (fun _ => rfl) (fun _ _ h => h.1)
theorem opnAccs : Opn Tryz.prog 26 1 (encS (α := Acc)) (memS 3 ac (fun _ a => a.1.size ≤ maxLen)) := Opn.slice Tryz.underlying26 opnAcc (by kernel_rfl) (by decide)
end Go.Proofs.YtpifjhoelnacgaaGreat
