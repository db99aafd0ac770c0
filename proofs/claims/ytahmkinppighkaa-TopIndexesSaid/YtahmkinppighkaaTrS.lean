/- The reference of packed trees: Search, Stab, Bounds, Visits. -/
import Derived.Test.YtahmkinppighkaaTrQ
set_option linter.unusedSimpArgs false
set_option linter.unusedVariables false
namespace Go.Proofs.Ytahmkinppighkaa
open Go.RowKit


/-- what the reference's search finds -/
def rsF (Lo : List Bxs) (q : Rct) : List Int := putsF ((Lo.filter fun b => ovlB b.1 q).map (·.2))
def ctB (b : Bxs) (x y : Int) : Bool := decide (b.1.1.1 ≤ x) && decide (x < b.1.1.2) && decide (b.1.2.1 ≤ y) && decide (y < b.1.2.2)
def rtF (Lo : List Bxs) (x y : Int) : List Int := putsF ((Lo.filter fun b => ctB b x y).map (·.2))
def rbF (Lo : List Bxs) : Rct × Bool := match Lo with | [] => (((0, 0), (0, 0)), false) | b :: l => ((b :: l).foldl (fun r x => jn r x.1) b.1, true)
theorem put_step (p : Bxs → Bool) (acc : List Int) (l : List Bxs) {k : Nat} (h : k < l.length) : (((l.drop k).filter p).map (·.2)).foldl putF acc = (((l.drop (k + 1)).filter p).map (·.2)).foldl putF (if p l[k] then putF acc l[k].2 else acc) := by
  rw [List.drop_eq_getElem_cons h, List.filter_cons]
  cases hp : p l[k] <;> simp
theorem putF_length (l : List Int) (n : Int) : (putF l n).length ≤ l.length + 1 := by
  unfold putF
  rw [List.length_append, List.length_cons]
  have h1 : (l.filter fun x => decide (x < n)).length + (l.filter fun x => decide (n < x)).length ≤ l.length := by
    induction l with
    | nil => simp
    | cons x l ih => simp only [List.filter_cons]; split <;> split <;> simp_all <;> omega
  omega
theorem exam_len_pos (q : Rct) (t : Tr) : 1 ≤ (exam q t).length := exam_pos q t
theorem examS_eq (q : Rct) : ∀ l : List Tr, (examS q l).length = (l.map fun k => if ovlB k.r q then (exam q k).length else 0).sum
  | [] => rfl
  | k :: l => by
    rw [examS, List.length_append, examS_eq q l, List.map_cons, List.sum_cons]
    congr 1
    split <;> simp
end Go.Proofs.Ytahmkinppighkaa
