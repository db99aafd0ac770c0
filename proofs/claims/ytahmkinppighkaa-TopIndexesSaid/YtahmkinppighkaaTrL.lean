/- The reference of packed trees: before, put, Check, ordered. -/
import Derived.Test.YtahmkinppighkaaTrB
import Derived.Deep.QuietTactic
set_option linter.unusedSimpArgs false
set_option linter.unusedVariables false
namespace Go.Proofs.Ytahmkinppighkaa
open Go.RowKit


def cpX (b : Bxs) : Nat → Int | 0 => b.1.1.1 | 1 => b.1.1.2 | 2 => b.1.2.1 | 3 => b.1.2.2 | _ => b.2


theorem fl_take (p : Int → Bool) (l : List Int) {k : Nat} (h : k < l.length) : (l.take (k + 1)).filter p = (l.take k).filter p ++ if p l[k] then [l[k]] else [] := by
  rw [List.take_succ_eq_append_getElem h, List.filter_append]
  congr 1
  cases hp : p l[k] <;> simp [hp]
end Go.Proofs.Ytahmkinppighkaa
