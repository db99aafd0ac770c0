/-
  No cell of these rows narrows 'for every input' (looked for: loops, veiled, ifaces, maps, wideKeys, modest, calm, conditions, laid).
  DERIVED. THE GIVEN ROWS OF THIS SEAT. 3 by the template 'for every input the law returns true; each argument reads behind the call as it read before'; 0 by the template 'total and deterministic' (their statements: YtpifjhoelnacgaaGreatTotals.lean).
  GIVEN WITH THE SEED: the statements are not yours to turn. If you find one false, say at which input.
  Laid BY PROGRAM, IN A SANDBOX (cutbox-rows.mjs): the forced cells as the released guide's own fill.sh prints them over the translation feead636036bab94… (all of the seat's roots in one cut). By AI agents, Wed Nov 11 2026. No macro, syntax, notation, axiom, sorry.
-/
import Derived.Test.YtpifjhoelnacgaaGreatChecked
import GoSem.Claim
import GoSem.ClaimJoined
import GoSem.ClaimMapViews
import Derived.JoinedTies
import Derived.KernelRfl
namespace Go.Proofs.YtpifjhoelnacgaaGreat
/- THE CELL 'sum', in the pinned program and in every row, IS THE sha256 OF THE DUMP (.gsa) THAT YtpifjhoelnacgaaGreatProg.lean LOADS. Nothing in Lean hashes anything: it is a label: what it is worth is what the hold of that sum in a sandbox is worth. -/
noncomputable def Tryz.pinned : Pinned := { name := "ytpifjhoelnacgaagreat", sum := "feead636036bab94d8aa21ec05f244a0d30da650bbf8ad2fc662dc686d6f3ccf", checked := Tryz.checked }
namespace Rows
def none {H : Type} : Left H := { results := [], args := [] }

/-- 'bitemporallaw46.ConflictChanged': WHATEVER THE INPUT: true; the input reads as it did. -/
def conflictChangedSpec : ChangeSpec := { name := "conflictChanged", fn := fun _ => fun
  | [d1, d2, d3] => { results := [.lit (.bool true)], args := [d1, d2, d3] }
  | _ => none }
def conflictChangedRow : OpenClaim := { program := "ytpifjhoelnacgaagreat", sum := "feead636036bab94d8aa21ec05f244a0d30da650bbf8ad2fc662dc686d6f3ccf", func := "bitemporal/bitemporallaw46.ConflictChanged", spec := "conflictChanged", inPlace := ["internal/bytealg.abigen_runtime_cmpstring"], unfollowed := true, recurses := true, apart := false }
def ConflictChangedSaid : Prop := conflictChangedRow.holds Tryz.pinned (OpenSpec.ofChange conflictChangedSpec)

/-- ITS FALSE NEIGHBOUR: 'it returns false'. Refute it at one input. -/
def conflictChangedWrong : ChangeSpec := { name := "conflictChanged", fn := fun _ => fun
  | [d1, d2, d3] => { results := [.lit (.bool false)], args := [d1, d2, d3] }
  | _ => none }
def ConflictChangedWrongFalsely : Prop := conflictChangedRow.holds Tryz.pinned (OpenSpec.ofChange conflictChangedWrong)

/-- 'bitemporallaw46.ConflictOverlap': WHATEVER THE INPUT: true; the input reads as it did. -/
def conflictOverlapSpec : ChangeSpec := { name := "conflictOverlap", fn := fun _ => fun
  | [d1, d2] => { results := [.lit (.bool true)], args := [d1, d2] }
  | _ => none }
def conflictOverlapRow : OpenClaim := { program := "ytpifjhoelnacgaagreat", sum := "feead636036bab94d8aa21ec05f244a0d30da650bbf8ad2fc662dc686d6f3ccf", func := "bitemporal/bitemporallaw46.ConflictOverlap", spec := "conflictOverlap", inPlace := ["internal/bytealg.abigen_runtime_cmpstring"], unfollowed := true, recurses := true, apart := false }
def ConflictOverlapSaid : Prop := conflictOverlapRow.holds Tryz.pinned (OpenSpec.ofChange conflictOverlapSpec)

/-- ITS FALSE NEIGHBOUR: 'it returns false'. Refute it at one input. -/
def conflictOverlapWrong : ChangeSpec := { name := "conflictOverlap", fn := fun _ => fun
  | [d1, d2] => { results := [.lit (.bool false)], args := [d1, d2] }
  | _ => none }
def ConflictOverlapWrongFalsely : Prop := conflictOverlapRow.holds Tryz.pinned (OpenSpec.ofChange conflictOverlapWrong)

/-- 'bitemporallaw46.ConflictMerge': WHATEVER THE INPUT: true; the input reads as it did. -/
def conflictMergeSpec : ChangeSpec := { name := "conflictMerge", fn := fun _ => fun
  | [d1, d2, d3] => { results := [.lit (.bool true)], args := [d1, d2, d3] }
  | _ => none }
def conflictMergeRow : OpenClaim := { program := "ytpifjhoelnacgaagreat", sum := "feead636036bab94d8aa21ec05f244a0d30da650bbf8ad2fc662dc686d6f3ccf", func := "bitemporal/bitemporallaw46.ConflictMerge", spec := "conflictMerge", inPlace := ["internal/bytealg.abigen_runtime_cmpstring"], unfollowed := true, recurses := true, apart := false }
def ConflictMergeSaid : Prop := conflictMergeRow.holds Tryz.pinned (OpenSpec.ofChange conflictMergeSpec)

/-- ITS FALSE NEIGHBOUR: 'it returns false'. Refute it at one input. -/
def conflictMergeWrong : ChangeSpec := { name := "conflictMerge", fn := fun _ => fun
  | [d1, d2, d3] => { results := [.lit (.bool false)], args := [d1, d2, d3] }
  | _ => none }
def ConflictMergeWrongFalsely : Prop := conflictMergeRow.holds Tryz.pinned (OpenSpec.ofChange conflictMergeWrong)

/- THE SECOND FORM. 'bulk': how many values and letters a reading holds, each counted each time it is reached (what is shared counts as often as it is met; a slice's spare places count too). A statement '..UptoSaid' is the law's where the arguments, and the package variables that the reading takes, are together of bulk at most 1048576: NARROWER than '..Said'. Prove '..Said' where nothing that the law and all that it calls make is longer than what came in: it says more and counts as full. Else prove '..UptoSaid'. A law counts once. -/
mutual
def uptoBulk {H : Type} : DataW H → Nat
  | .lit (.string bytes) => bytes.length + 1
  | .lit _ => 1
  | .nil => 1
  | .ptr d => uptoBulk d + 1
  | .slice elems spare => uptoBulkAll elems + uptoBulkAll spare + 1
  | .agg parts => uptoBulkAll parts + 1
  | .iface _ d => uptoBulk d + 1
  | .map entries => uptoBulkEntries entries + 1
  | .held _ => 1
def uptoBulkAll {H : Type} : List (DataW H) → Nat
  | [] => 0
  | d :: r => uptoBulk d + uptoBulkAll r
def uptoBulkEntries {H : Type} : List (Lit × DataW H) → Nat
  | [] => 0
  | x :: r => uptoBulkEntry x + uptoBulkEntries r
def uptoBulkEntry {H : Type} : Lit × DataW H → Nat
  | (.string bytes, d) => bytes.length + uptoBulk d + 1
  | (_, d) => uptoBulk d + 1
 end
def uptoSmall : (H : Type) → List (DataW H) → Bool := fun _ ds => decide (uptoBulkAll ds ≤ 1048576)
def OpenSpec.upto (s : _root_.Go.ChangeSpec) : _root_.Go.OpenSpec := { _root_.Go.OpenSpec.ofChange s with cond := some uptoSmall }

/-- 'bitemporallaw46.ConflictChanged', WHERE WHAT IT READS IS OF BULK AT MOST 1048576: true; the input reads as it did. -/
def conflictChangedUptoRow : OpenClaim := { program := "ytpifjhoelnacgaagreat", sum := "feead636036bab94d8aa21ec05f244a0d30da650bbf8ad2fc662dc686d6f3ccf", func := "bitemporal/bitemporallaw46.ConflictChanged", spec := "conflictChanged", inPlace := ["internal/bytealg.abigen_runtime_cmpstring"], unfollowed := true, recurses := true, apart := false, narrowed := true }
def ConflictChangedUptoSaid : Prop := conflictChangedUptoRow.holds Tryz.pinned (OpenSpec.upto conflictChangedSpec)

/-- 'bitemporallaw46.ConflictOverlap', WHERE WHAT IT READS IS OF BULK AT MOST 1048576: true; the input reads as it did. -/
def conflictOverlapUptoRow : OpenClaim := { program := "ytpifjhoelnacgaagreat", sum := "feead636036bab94d8aa21ec05f244a0d30da650bbf8ad2fc662dc686d6f3ccf", func := "bitemporal/bitemporallaw46.ConflictOverlap", spec := "conflictOverlap", inPlace := ["internal/bytealg.abigen_runtime_cmpstring"], unfollowed := true, recurses := true, apart := false, narrowed := true }
def ConflictOverlapUptoSaid : Prop := conflictOverlapUptoRow.holds Tryz.pinned (OpenSpec.upto conflictOverlapSpec)

/-- 'bitemporallaw46.ConflictMerge', WHERE WHAT IT READS IS OF BULK AT MOST 1048576: true; the input reads as it did. -/
def conflictMergeUptoRow : OpenClaim := { program := "ytpifjhoelnacgaagreat", sum := "feead636036bab94d8aa21ec05f244a0d30da650bbf8ad2fc662dc686d6f3ccf", func := "bitemporal/bitemporallaw46.ConflictMerge", spec := "conflictMerge", inPlace := ["internal/bytealg.abigen_runtime_cmpstring"], unfollowed := true, recurses := true, apart := false, narrowed := true }
def ConflictMergeUptoSaid : Prop := conflictMergeUptoRow.holds Tryz.pinned (OpenSpec.upto conflictMergeSpec)

end Rows
end Go.Proofs.YtpifjhoelnacgaaGreat
