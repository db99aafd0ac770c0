/- The contracts of the reference of chapter 3: Insert, Points, Slices. -/
import Derived.Test.YtimhehnmmjgeaaaGreatDoorSpA
import Derived.Deep.RegionHeld3
set_option linter.unusedSimpArgs false
set_option linter.unusedVariables false
namespace Go.Proofs.YtimhehnmmjgeaaaGreatDoor
open Go.RowKit


theorem insF_lt {x n : Int} {l : List Int} (h : x < n) : insF (x :: l) n = x :: insF l n := by simp [insF, h]
theorem insF_gt {x n : Int} {l : List Int} (h : n < x) : insF (x :: l) n = n :: x :: l := by
  have : ¬ x < n := by omega
  simp [insF, h, this]
theorem insF_eq {x n : Int} {l : List Int} (h : x = n) : insF (x :: l) n = x :: l := by subst h; simp [insF]
theorem slc_step {l : List (Int × Int)} {ps : List Int} {k : Nat} (h1 : 1 ≤ k) (h : k < ps.length) : (pairsF (ps.drop (k - 1))).filter (fun p => inL l p.1) = (if inL l ps[k - 1] then [(ps[k - 1], ps[k])] else []) ++ (pairsF (ps.drop k)).filter (fun p => inL l p.1) := by
  have e := pairsF_drop (ps := ps) (i := k - 1) (by omega)
  have e2 : k - 1 + 1 = k := by omega
  simp only [e2] at e
  rw [e, List.filter_cons]
  split <;> simp
end Go.Proofs.YtimhehnmmjgeaaaGreatDoor
