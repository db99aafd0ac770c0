/-
  No cell of these rows narrows 'for every input' (looked for: loops, veiled, ifaces, maps, wideKeys, modest, calm, conditions, laid).
  DERIVED. THE GIVEN ROWS OF THIS SEAT. 2 by the template 'for every input the law returns true; each argument reads behind the call as it read before'; 0 by the template 'total and deterministic' (their statements: YtahmkinppighkaaTotals.lean).
  GIVEN WITH THE SEED: the statements are not yours to turn. If you find one false, say at which input.
  Laid BY PROGRAM, IN A SANDBOX (cutbox-rows.mjs): the forced cells as the released guide's own fill.sh prints them over the translation 26c153a6bf30306c… (all of the seat's roots in one cut). By AI agents, Wed Nov 11 2026. No macro, syntax, notation, axiom, sorry.
-/
import Derived.Test.YtahmkinppighkaaChecked
import GoSem.Claim
import GoSem.ClaimJoined
import GoSem.ClaimMapViews
import Derived.JoinedTies
import Derived.KernelRfl
namespace Go.Proofs.Ytahmkinppighkaa
/- THE CELL 'sum', in the pinned program and in every row, IS THE sha256 OF THE DUMP (.gsa) THAT YtahmkinppighkaaProg.lean LOADS. Nothing in Lean hashes anything: it is a label: what it is worth is what the hold of that sum in a sandbox is worth. -/
noncomputable def Try.pinned : Pinned := { name := "ytahmkinppighkaa", sum := "26c153a6bf30306ca1444d47bc3d9b808fe9b0d84974c0e4b1153cce64d39414", checked := Try.checked }
namespace Rows
def none {H : Type} : Left H := { results := [], args := [] }

/-- 'bitemporaltop.TopRows': WHATEVER THE INPUT: true; the input reads as it did. -/
def topRowsSpec : ChangeSpec := { name := "topRows", fn := fun _ => fun
  | [d1, d2] => { results := [.lit (.bool true)], args := [d1, d2] }
  | _ => none }
def topRowsRow : OpenClaim := { program := "ytahmkinppighkaa", sum := "26c153a6bf30306ca1444d47bc3d9b808fe9b0d84974c0e4b1153cce64d39414", func := "bitemporal/bitemporaltop.TopRows", spec := "topRows", inPlace := ["internal/bytealg.abigen_runtime_cmpstring"], unfollowed := true, recurses := true, apart := false }
def TopRowsSaid : Prop := topRowsRow.holds Try.pinned (OpenSpec.ofChange topRowsSpec)

/-- ITS FALSE NEIGHBOUR: 'it returns false'. Refute it at one input. -/
def topRowsWrong : ChangeSpec := { name := "topRows", fn := fun _ => fun
  | [d1, d2] => { results := [.lit (.bool false)], args := [d1, d2] }
  | _ => none }
def TopRowsWrongFalsely : Prop := topRowsRow.holds Try.pinned (OpenSpec.ofChange topRowsWrong)

/-- 'bitemporaltop.TopIndexes': WHATEVER THE INPUT: true; the input reads as it did. -/
def topIndexesSpec : ChangeSpec := { name := "topIndexes", fn := fun _ => fun
  | [d1, d2] => { results := [.lit (.bool true)], args := [d1, d2] }
  | _ => none }
def topIndexesRow : OpenClaim := { program := "ytahmkinppighkaa", sum := "26c153a6bf30306ca1444d47bc3d9b808fe9b0d84974c0e4b1153cce64d39414", func := "bitemporal/bitemporaltop.TopIndexes", spec := "topIndexes", unfollowed := true, recurses := true, apart := false }
def TopIndexesSaid : Prop := topIndexesRow.holds Try.pinned (OpenSpec.ofChange topIndexesSpec)

/-- ITS FALSE NEIGHBOUR: 'it returns false'. Refute it at one input. -/
def topIndexesWrong : ChangeSpec := { name := "topIndexes", fn := fun _ => fun
  | [d1, d2] => { results := [.lit (.bool false)], args := [d1, d2] }
  | _ => none }
def TopIndexesWrongFalsely : Prop := topIndexesRow.holds Try.pinned (OpenSpec.ofChange topIndexesWrong)

/- THE SECOND FORM. 'bulk': how many values and letters a reading holds, each counted each time it is reached (what is shared counts as often as it is met; a slice's spare places count too). A statement '..UptoSaid' is the law's where the arguments, and the package variables that the reading takes, are together of bulk at most 1048576: NARROWER than '..Said'. Prove '..Said' where nothing that the law and all that it calls make is longer than what came in: it says more and counts as full. Else prove '..UptoSaid'. A law counts once. -/
mutual
def uptoBulk {H : Type} : DataW H → Nat
  | .lit (.string bytes) => bytes.length + 1
  | .lit _ => 1
  | .nil => 1
  | .ptr d => uptoBulk d + 1
  | .slice elems spare => uptoBulkAll elems + uptoBulkAll spare + 1
  | .agg parts => uptoBulkAll parts + 1
  | .iface _ d => uptoBulk d + 1
  | .map entries => uptoBulkEntries entries + 1
  | .held _ => 1
def uptoBulkAll {H : Type} : List (DataW H) → Nat
  | [] => 0
  | d :: r => uptoBulk d + uptoBulkAll r
def uptoBulkEntries {H : Type} : List (Lit × DataW H) → Nat
  | [] => 0
  | x :: r => uptoBulkEntry x + uptoBulkEntries r
def uptoBulkEntry {H : Type} : Lit × DataW H → Nat
  | (.string bytes, d) => bytes.length + uptoBulk d + 1
  | (_, d) => uptoBulk d + 1
 end
def uptoSmall : (H : Type) → List (DataW H) → Bool := fun _ ds => decide (uptoBulkAll ds ≤ 1048576)
def OpenSpec.upto (s : _root_.Go.ChangeSpec) : _root_.Go.OpenSpec := { _root_.Go.OpenSpec.ofChange s with cond := some uptoSmall }

/-- 'bitemporaltop.TopRows', WHERE WHAT IT READS IS OF BULK AT MOST 1048576: true; the input reads as it did. -/
def topRowsUptoRow : OpenClaim := { program := "ytahmkinppighkaa", sum := "26c153a6bf30306ca1444d47bc3d9b808fe9b0d84974c0e4b1153cce64d39414", func := "bitemporal/bitemporaltop.TopRows", spec := "topRows", inPlace := ["internal/bytealg.abigen_runtime_cmpstring"], unfollowed := true, recurses := true, apart := false, narrowed := true }
def TopRowsUptoSaid : Prop := topRowsUptoRow.holds Try.pinned (OpenSpec.upto topRowsSpec)

/-- 'bitemporaltop.TopIndexes', WHERE WHAT IT READS IS OF BULK AT MOST 1048576: true; the input reads as it did. -/
def topIndexesUptoRow : OpenClaim := { program := "ytahmkinppighkaa", sum := "26c153a6bf30306ca1444d47bc3d9b808fe9b0d84974c0e4b1153cce64d39414", func := "bitemporal/bitemporaltop.TopIndexes", spec := "topIndexes", unfollowed := true, recurses := true, apart := false, narrowed := true }
def TopIndexesUptoSaid : Prop := topIndexesUptoRow.holds Try.pinned (OpenSpec.upto topIndexesSpec)

end Rows
end Go.Proofs.Ytahmkinppighkaa
