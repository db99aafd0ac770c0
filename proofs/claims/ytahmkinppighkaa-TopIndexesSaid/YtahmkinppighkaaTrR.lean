/- The reference of packed trees: Build. -/
import Derived.Test.YtahmkinppighkaaTrQ
set_option linter.unusedSimpArgs false
set_option linter.unusedVariables false
namespace Go.Proofs.Ytahmkinppighkaa
open Go.RowKit


theorem alloc_agree2 {A B : World} {o1 o2 : Obj} {k : Nat} (hs : A.heap.size = B.heap.size) (h : A.heap[k]? = B.heap[k]?) (hk : k ≠ A.heap.size) : (A.alloc o1).heap[k]? = (B.alloc o2).heap[k]? := by
  show (A.heap.push o1)[k]? = (B.heap.push o2)[k]?
  rw [Array.getElem?_push, Array.getElem?_push, if_neg hk, if_neg (by omega), h]


end Go.Proofs.Ytahmkinppighkaa
