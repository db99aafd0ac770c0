/-
  No cell of these rows narrows 'for every input' (looked for: loops, veiled, ifaces, maps, wideKeys, modest, calm, conditions, laid).
  DERIVED. THE GIVEN ROWS OF THIS SEAT. 7 by the template 'for every input the law returns true; each argument reads behind the call as it read before'; 0 by the template 'total and deterministic' (their statements: YtcnhnbdgmfhfgaaTotals.lean).
  GIVEN WITH THE SEED: the statements are not yours to turn. If you find one false, say at which input.
  Laid BY PROGRAM, IN A SANDBOX (cutbox-rows.mjs): the forced cells as the released guide's own fill.sh prints them over the translation 25b9179ebd1ad31d… (all of the seat's roots in one cut). By AI agents, Wed Nov 11 2026. No macro, syntax, notation, axiom, sorry.
-/
import Derived.Test.YtcnhnbdgmfhfgaaChecked
import GoSem.Claim
import GoSem.ClaimJoined
import GoSem.ClaimMapViews
import Derived.JoinedTies
import Derived.KernelRfl
namespace Go.Proofs.Ytcnhnbdgmfhfgaa
/- THE CELL 'sum', in the pinned program and in every row, IS THE sha256 OF THE DUMP (.gsa) THAT YtcnhnbdgmfhfgaaProg.lean LOADS. Nothing in Lean hashes anything: it is a label: what it is worth is what the hold of that sum in a sandbox is worth. -/
noncomputable def Try.pinned : Pinned := { name := "ytcnhnbdgmfhfgaa", sum := "25b9179ebd1ad31d9bac562b4848d9f09a64182a5268eae3cb618b16b99af854", checked := Try.checked }
namespace Rows
def none {H : Type} : Left H := { results := [], args := [] }

/-- 'bitemporallaw05.RegionCombines': WHATEVER THE INPUT: true; the input reads as it did. -/
def regionCombinesSpec : ChangeSpec := { name := "regionCombines", fn := fun _ => fun
  | [d1, d2] => { results := [.lit (.bool true)], args := [d1, d2] }
  | _ => none }
def regionCombinesRow : OpenClaim := { program := "ytcnhnbdgmfhfgaa", sum := "25b9179ebd1ad31d9bac562b4848d9f09a64182a5268eae3cb618b16b99af854", func := "bitemporal/bitemporallaw05.RegionCombines", spec := "regionCombines", unfollowed := true, recurses := true, apart := false }
def RegionCombinesSaid : Prop := regionCombinesRow.holds Try.pinned (OpenSpec.ofChange regionCombinesSpec)

/-- ITS FALSE NEIGHBOUR: 'it returns false'. Refute it at one input. -/
def regionCombinesWrong : ChangeSpec := { name := "regionCombines", fn := fun _ => fun
  | [d1, d2] => { results := [.lit (.bool false)], args := [d1, d2] }
  | _ => none }
def RegionCombinesWrongFalsely : Prop := regionCombinesRow.holds Try.pinned (OpenSpec.ofChange regionCombinesWrong)

/-- 'bitemporallaw05.RegionAlgebra': WHATEVER THE INPUT: true; the input reads as it did. -/
def regionAlgebraSpec : ChangeSpec := { name := "regionAlgebra", fn := fun _ => fun
  | [d1, d2, d3] => { results := [.lit (.bool true)], args := [d1, d2, d3] }
  | _ => none }
def regionAlgebraRow : OpenClaim := { program := "ytcnhnbdgmfhfgaa", sum := "25b9179ebd1ad31d9bac562b4848d9f09a64182a5268eae3cb618b16b99af854", func := "bitemporal/bitemporallaw05.RegionAlgebra", spec := "regionAlgebra", unfollowed := true, recurses := true, apart := false }
def RegionAlgebraSaid : Prop := regionAlgebraRow.holds Try.pinned (OpenSpec.ofChange regionAlgebraSpec)

/-- ITS FALSE NEIGHBOUR: 'it returns false'. Refute it at one input. -/
def regionAlgebraWrong : ChangeSpec := { name := "regionAlgebra", fn := fun _ => fun
  | [d1, d2, d3] => { results := [.lit (.bool false)], args := [d1, d2, d3] }
  | _ => none }
def RegionAlgebraWrongFalsely : Prop := regionAlgebraRow.holds Try.pinned (OpenSpec.ofChange regionAlgebraWrong)

/-- 'bitemporallaw05.RegionSlices': WHATEVER THE INPUT: true; the input reads as it did. -/
def regionSlicesSpec : ChangeSpec := { name := "regionSlices", fn := fun _ => fun
  | [d1, d2, d3] => { results := [.lit (.bool true)], args := [d1, d2, d3] }
  | _ => none }
def regionSlicesRow : OpenClaim := { program := "ytcnhnbdgmfhfgaa", sum := "25b9179ebd1ad31d9bac562b4848d9f09a64182a5268eae3cb618b16b99af854", func := "bitemporal/bitemporallaw05.RegionSlices", spec := "regionSlices", unfollowed := true, recurses := true, apart := false }
def RegionSlicesSaid : Prop := regionSlicesRow.holds Try.pinned (OpenSpec.ofChange regionSlicesSpec)

/-- ITS FALSE NEIGHBOUR: 'it returns false'. Refute it at one input. -/
def regionSlicesWrong : ChangeSpec := { name := "regionSlices", fn := fun _ => fun
  | [d1, d2, d3] => { results := [.lit (.bool false)], args := [d1, d2, d3] }
  | _ => none }
def RegionSlicesWrongFalsely : Prop := regionSlicesRow.holds Try.pinned (OpenSpec.ofChange regionSlicesWrong)

/-- 'bitemporallaw05.RegionApart': WHATEVER THE INPUT: true; the input reads as it did. -/
def regionApartSpec : ChangeSpec := { name := "regionApart", fn := fun _ => fun
  | [d1, d2, d3] => { results := [.lit (.bool true)], args := [d1, d2, d3] }
  | _ => none }
def regionApartRow : OpenClaim := { program := "ytcnhnbdgmfhfgaa", sum := "25b9179ebd1ad31d9bac562b4848d9f09a64182a5268eae3cb618b16b99af854", func := "bitemporal/bitemporallaw05.RegionApart", spec := "regionApart", unfollowed := true, recurses := true, apart := false }
def RegionApartSaid : Prop := regionApartRow.holds Try.pinned (OpenSpec.ofChange regionApartSpec)

/-- ITS FALSE NEIGHBOUR: 'it returns false'. Refute it at one input. -/
def regionApartWrong : ChangeSpec := { name := "regionApart", fn := fun _ => fun
  | [d1, d2, d3] => { results := [.lit (.bool false)], args := [d1, d2, d3] }
  | _ => none }
def RegionApartWrongFalsely : Prop := regionApartRow.holds Try.pinned (OpenSpec.ofChange regionApartWrong)

/-- 'bitemporallaw05.RegionOf': WHATEVER THE INPUT: true; the input reads as it did. -/
def regionOfSpec : ChangeSpec := { name := "regionOf", fn := fun _ => fun
  | [d] => { results := [.lit (.bool true)], args := [d] }
  | _ => none }
def regionOfRow : OpenClaim := { program := "ytcnhnbdgmfhfgaa", sum := "25b9179ebd1ad31d9bac562b4848d9f09a64182a5268eae3cb618b16b99af854", func := "bitemporal/bitemporallaw05.RegionOf", spec := "regionOf", unfollowed := true, recurses := true, apart := false }
def RegionOfSaid : Prop := regionOfRow.holds Try.pinned (OpenSpec.ofChange regionOfSpec)

/-- ITS FALSE NEIGHBOUR: 'it returns false'. Refute it at one input. -/
def regionOfWrong : ChangeSpec := { name := "regionOf", fn := fun _ => fun
  | [d] => { results := [.lit (.bool false)], args := [d] }
  | _ => none }
def RegionOfWrongFalsely : Prop := regionOfRow.holds Try.pinned (OpenSpec.ofChange regionOfWrong)

/-- 'bitemporallaw05.RegionPoints': WHATEVER THE INPUT: true; the input reads as it did. -/
def regionPointsSpec : ChangeSpec := { name := "regionPoints", fn := fun _ => fun
  | [d1, d2, d3] => { results := [.lit (.bool true)], args := [d1, d2, d3] }
  | _ => none }
def regionPointsRow : OpenClaim := { program := "ytcnhnbdgmfhfgaa", sum := "25b9179ebd1ad31d9bac562b4848d9f09a64182a5268eae3cb618b16b99af854", func := "bitemporal/bitemporallaw05.RegionPoints", spec := "regionPoints", unfollowed := true, recurses := true, apart := false }
def RegionPointsSaid : Prop := regionPointsRow.holds Try.pinned (OpenSpec.ofChange regionPointsSpec)

/-- ITS FALSE NEIGHBOUR: 'it returns false'. Refute it at one input. -/
def regionPointsWrong : ChangeSpec := { name := "regionPoints", fn := fun _ => fun
  | [d1, d2, d3] => { results := [.lit (.bool false)], args := [d1, d2, d3] }
  | _ => none }
def RegionPointsWrongFalsely : Prop := regionPointsRow.holds Try.pinned (OpenSpec.ofChange regionPointsWrong)

/-- 'bitemporallaw05.RegionTells': WHATEVER THE INPUT: true; the input reads as it did. -/
def regionTellsSpec : ChangeSpec := { name := "regionTells", fn := fun _ => fun
  | [d1, d2, d3] => { results := [.lit (.bool true)], args := [d1, d2, d3] }
  | _ => none }
def regionTellsRow : OpenClaim := { program := "ytcnhnbdgmfhfgaa", sum := "25b9179ebd1ad31d9bac562b4848d9f09a64182a5268eae3cb618b16b99af854", func := "bitemporal/bitemporallaw05.RegionTells", spec := "regionTells", unfollowed := true, recurses := true, apart := false }
def RegionTellsSaid : Prop := regionTellsRow.holds Try.pinned (OpenSpec.ofChange regionTellsSpec)

/-- ITS FALSE NEIGHBOUR: 'it returns false'. Refute it at one input. -/
def regionTellsWrong : ChangeSpec := { name := "regionTells", fn := fun _ => fun
  | [d1, d2, d3] => { results := [.lit (.bool false)], args := [d1, d2, d3] }
  | _ => none }
def RegionTellsWrongFalsely : Prop := regionTellsRow.holds Try.pinned (OpenSpec.ofChange regionTellsWrong)

/- THE SECOND FORM. 'bulk': how many values and letters a reading holds, each counted each time it is reached (what is shared counts as often as it is met; a slice's spare places count too). A statement '..UptoSaid' is the law's where the arguments, and the package variables that the reading takes, are together of bulk at most 1048576: NARROWER than '..Said'. Prove '..Said' where nothing that the law and all that it calls make is longer than what came in: it says more and counts as full. Else prove '..UptoSaid'. A law counts once. -/
mutual
def uptoBulk {H : Type} : DataW H → Nat
  | .lit (.string bytes) => bytes.length + 1
  | .lit _ => 1
  | .nil => 1
  | .ptr d => uptoBulk d + 1
  | .slice elems spare => uptoBulkAll elems + uptoBulkAll spare + 1
  | .agg parts => uptoBulkAll parts + 1
  | .iface _ d => uptoBulk d + 1
  | .map entries => uptoBulkEntries entries + 1
  | .held _ => 1
def uptoBulkAll {H : Type} : List (DataW H) → Nat
  | [] => 0
  | d :: r => uptoBulk d + uptoBulkAll r
def uptoBulkEntries {H : Type} : List (Lit × DataW H) → Nat
  | [] => 0
  | x :: r => uptoBulkEntry x + uptoBulkEntries r
def uptoBulkEntry {H : Type} : Lit × DataW H → Nat
  | (.string bytes, d) => bytes.length + uptoBulk d + 1
  | (_, d) => uptoBulk d + 1
 end
def uptoSmall : (H : Type) → List (DataW H) → Bool := fun _ ds => decide (uptoBulkAll ds ≤ 1048576)
def OpenSpec.upto (s : _root_.Go.ChangeSpec) : _root_.Go.OpenSpec := { _root_.Go.OpenSpec.ofChange s with cond := some uptoSmall }

/-- 'bitemporallaw05.RegionCombines', WHERE WHAT IT READS IS OF BULK AT MOST 1048576: true; the input reads as it did. -/
def regionCombinesUptoRow : OpenClaim := { program := "ytcnhnbdgmfhfgaa", sum := "25b9179ebd1ad31d9bac562b4848d9f09a64182a5268eae3cb618b16b99af854", func := "bitemporal/bitemporallaw05.RegionCombines", spec := "regionCombines", unfollowed := true, recurses := true, apart := false, narrowed := true }
def RegionCombinesUptoSaid : Prop := regionCombinesUptoRow.holds Try.pinned (OpenSpec.upto regionCombinesSpec)

/-- 'bitemporallaw05.RegionAlgebra', WHERE WHAT IT READS IS OF BULK AT MOST 1048576: true; the input reads as it did. -/
def regionAlgebraUptoRow : OpenClaim := { program := "ytcnhnbdgmfhfgaa", sum := "25b9179ebd1ad31d9bac562b4848d9f09a64182a5268eae3cb618b16b99af854", func := "bitemporal/bitemporallaw05.RegionAlgebra", spec := "regionAlgebra", unfollowed := true, recurses := true, apart := false, narrowed := true }
def RegionAlgebraUptoSaid : Prop := regionAlgebraUptoRow.holds Try.pinned (OpenSpec.upto regionAlgebraSpec)

/-- 'bitemporallaw05.RegionSlices', WHERE WHAT IT READS IS OF BULK AT MOST 1048576: true; the input reads as it did. -/
def regionSlicesUptoRow : OpenClaim := { program := "ytcnhnbdgmfhfgaa", sum := "25b9179ebd1ad31d9bac562b4848d9f09a64182a5268eae3cb618b16b99af854", func := "bitemporal/bitemporallaw05.RegionSlices", spec := "regionSlices", unfollowed := true, recurses := true, apart := false, narrowed := true }
def RegionSlicesUptoSaid : Prop := regionSlicesUptoRow.holds Try.pinned (OpenSpec.upto regionSlicesSpec)

/-- 'bitemporallaw05.RegionApart', WHERE WHAT IT READS IS OF BULK AT MOST 1048576: true; the input reads as it did. -/
def regionApartUptoRow : OpenClaim := { program := "ytcnhnbdgmfhfgaa", sum := "25b9179ebd1ad31d9bac562b4848d9f09a64182a5268eae3cb618b16b99af854", func := "bitemporal/bitemporallaw05.RegionApart", spec := "regionApart", unfollowed := true, recurses := true, apart := false, narrowed := true }
def RegionApartUptoSaid : Prop := regionApartUptoRow.holds Try.pinned (OpenSpec.upto regionApartSpec)

/-- 'bitemporallaw05.RegionOf', WHERE WHAT IT READS IS OF BULK AT MOST 1048576: true; the input reads as it did. -/
def regionOfUptoRow : OpenClaim := { program := "ytcnhnbdgmfhfgaa", sum := "25b9179ebd1ad31d9bac562b4848d9f09a64182a5268eae3cb618b16b99af854", func := "bitemporal/bitemporallaw05.RegionOf", spec := "regionOf", unfollowed := true, recurses := true, apart := false, narrowed := true }
def RegionOfUptoSaid : Prop := regionOfUptoRow.holds Try.pinned (OpenSpec.upto regionOfSpec)

/-- 'bitemporallaw05.RegionPoints', WHERE WHAT IT READS IS OF BULK AT MOST 1048576: true; the input reads as it did. -/
def regionPointsUptoRow : OpenClaim := { program := "ytcnhnbdgmfhfgaa", sum := "25b9179ebd1ad31d9bac562b4848d9f09a64182a5268eae3cb618b16b99af854", func := "bitemporal/bitemporallaw05.RegionPoints", spec := "regionPoints", unfollowed := true, recurses := true, apart := false, narrowed := true }
def RegionPointsUptoSaid : Prop := regionPointsUptoRow.holds Try.pinned (OpenSpec.upto regionPointsSpec)

/-- 'bitemporallaw05.RegionTells', WHERE WHAT IT READS IS OF BULK AT MOST 1048576: true; the input reads as it did. -/
def regionTellsUptoRow : OpenClaim := { program := "ytcnhnbdgmfhfgaa", sum := "25b9179ebd1ad31d9bac562b4848d9f09a64182a5268eae3cb618b16b99af854", func := "bitemporal/bitemporallaw05.RegionTells", spec := "regionTells", unfollowed := true, recurses := true, apart := false, narrowed := true }
def RegionTellsUptoSaid : Prop := regionTellsUptoRow.holds Try.pinned (OpenSpec.upto regionTellsSpec)

end Rows
end Go.Proofs.Ytcnhnbdgmfhfgaa
