/-
  No cell of these rows narrows 'for every input' (looked for: loops, veiled, ifaces, maps, wideKeys, modest, calm, conditions, laid).
  DERIVED. THE GIVEN ROWS OF THIS SEAT. 6 by the template 'for every input the law returns true; each argument reads behind the call as it read before'; 0 by the template 'total and deterministic' (their statements: YtgobmiahhmajdaaTotals.lean).
  GIVEN WITH THE SEED: the statements are not yours to turn. If you find one false, say at which input.
  Laid BY PROGRAM, IN A SANDBOX (cutbox-rows.mjs): the forced cells as the released guide's own fill.sh prints them over the translation 8bcb7e0511a24723… (all of the seat's roots in one cut). By AI agents, Wed Nov 11 2026. No macro, syntax, notation, axiom, sorry.
-/
import Derived.Test.YtgobmiahhmajdaaChecked
import GoSem.Claim
import GoSem.ClaimJoined
import GoSem.ClaimMapViews
import Derived.JoinedTies
import Derived.KernelRfl
namespace Go.Proofs.Ytgobmiahhmajdaa
/- THE CELL 'sum', in the pinned program and in every row, IS THE sha256 OF THE DUMP (.gsa) THAT YtgobmiahhmajdaaProg.lean LOADS. Nothing in Lean hashes anything: it is a label: what it is worth is what the hold of that sum in a sandbox is worth. -/
noncomputable def Try.pinned : Pinned := { name := "ytgobmiahhmajdaa", sum := "8bcb7e0511a24723c6e98b7935a946d16c0a47dcd85646a023f99b8071f93cf8", checked := Try.checked }
namespace Rows
def none {H : Type} : Left H := { results := [], args := [] }

/-- 'bitemporallaw31.RtreeBuild': WHATEVER THE INPUT: true; the input reads as it did. -/
def rtreeBuildSpec : ChangeSpec := { name := "rtreeBuild", fn := fun _ => fun
  | [d1, d2] => { results := [.lit (.bool true)], args := [d1, d2] }
  | _ => none }
def rtreeBuildRow : OpenClaim := { program := "ytgobmiahhmajdaa", sum := "8bcb7e0511a24723c6e98b7935a946d16c0a47dcd85646a023f99b8071f93cf8", func := "bitemporal/bitemporallaw31.RtreeBuild", spec := "rtreeBuild", unfollowed := true, recurses := true, apart := false }
def RtreeBuildSaid : Prop := rtreeBuildRow.holds Try.pinned (OpenSpec.ofChange rtreeBuildSpec)

/-- ITS FALSE NEIGHBOUR: 'it returns false'. Refute it at one input. -/
def rtreeBuildWrong : ChangeSpec := { name := "rtreeBuild", fn := fun _ => fun
  | [d1, d2] => { results := [.lit (.bool false)], args := [d1, d2] }
  | _ => none }
def RtreeBuildWrongFalsely : Prop := rtreeBuildRow.holds Try.pinned (OpenSpec.ofChange rtreeBuildWrong)

/-- 'bitemporallaw31.RtreeSearch': WHATEVER THE INPUT: true; the input reads as it did. -/
def rtreeSearchSpec : ChangeSpec := { name := "rtreeSearch", fn := fun _ => fun
  | [d1, d2, d3] => { results := [.lit (.bool true)], args := [d1, d2, d3] }
  | _ => none }
def rtreeSearchRow : OpenClaim := { program := "ytgobmiahhmajdaa", sum := "8bcb7e0511a24723c6e98b7935a946d16c0a47dcd85646a023f99b8071f93cf8", func := "bitemporal/bitemporallaw31.RtreeSearch", spec := "rtreeSearch", unfollowed := true, recurses := true, apart := false }
def RtreeSearchSaid : Prop := rtreeSearchRow.holds Try.pinned (OpenSpec.ofChange rtreeSearchSpec)

/-- ITS FALSE NEIGHBOUR: 'it returns false'. Refute it at one input. -/
def rtreeSearchWrong : ChangeSpec := { name := "rtreeSearch", fn := fun _ => fun
  | [d1, d2, d3] => { results := [.lit (.bool false)], args := [d1, d2, d3] }
  | _ => none }
def RtreeSearchWrongFalsely : Prop := rtreeSearchRow.holds Try.pinned (OpenSpec.ofChange rtreeSearchWrong)

/-- 'bitemporallaw31.RtreeStab': WHATEVER THE INPUT: true; the input reads as it did. -/
def rtreeStabSpec : ChangeSpec := { name := "rtreeStab", fn := fun _ => fun
  | [d1, d2, d3, d4] => { results := [.lit (.bool true)], args := [d1, d2, d3, d4] }
  | _ => none }
def rtreeStabRow : OpenClaim := { program := "ytgobmiahhmajdaa", sum := "8bcb7e0511a24723c6e98b7935a946d16c0a47dcd85646a023f99b8071f93cf8", func := "bitemporal/bitemporallaw31.RtreeStab", spec := "rtreeStab", unfollowed := true, recurses := true, apart := false }
def RtreeStabSaid : Prop := rtreeStabRow.holds Try.pinned (OpenSpec.ofChange rtreeStabSpec)

/-- ITS FALSE NEIGHBOUR: 'it returns false'. Refute it at one input. -/
def rtreeStabWrong : ChangeSpec := { name := "rtreeStab", fn := fun _ => fun
  | [d1, d2, d3, d4] => { results := [.lit (.bool false)], args := [d1, d2, d3, d4] }
  | _ => none }
def RtreeStabWrongFalsely : Prop := rtreeStabRow.holds Try.pinned (OpenSpec.ofChange rtreeStabWrong)

/-- 'bitemporallaw31.RtreeSame': WHATEVER THE INPUT: true; the input reads as it did. -/
def rtreeSameSpec : ChangeSpec := { name := "rtreeSame", fn := fun _ => fun
  | [d1, d2, d3, d4] => { results := [.lit (.bool true)], args := [d1, d2, d3, d4] }
  | _ => none }
def rtreeSameRow : OpenClaim := { program := "ytgobmiahhmajdaa", sum := "8bcb7e0511a24723c6e98b7935a946d16c0a47dcd85646a023f99b8071f93cf8", func := "bitemporal/bitemporallaw31.RtreeSame", spec := "rtreeSame", unfollowed := true, recurses := true, apart := false }
def RtreeSameSaid : Prop := rtreeSameRow.holds Try.pinned (OpenSpec.ofChange rtreeSameSpec)

/-- ITS FALSE NEIGHBOUR: 'it returns false'. Refute it at one input. -/
def rtreeSameWrong : ChangeSpec := { name := "rtreeSame", fn := fun _ => fun
  | [d1, d2, d3, d4] => { results := [.lit (.bool false)], args := [d1, d2, d3, d4] }
  | _ => none }
def RtreeSameWrongFalsely : Prop := rtreeSameRow.holds Try.pinned (OpenSpec.ofChange rtreeSameWrong)

/-- 'bitemporallaw31.RtreeParts': WHATEVER THE INPUT: true; the input reads as it did. -/
def rtreePartsSpec : ChangeSpec := { name := "rtreeParts", fn := fun _ => fun
  | [d1, d2, d3, d4] => { results := [.lit (.bool true)], args := [d1, d2, d3, d4] }
  | _ => none }
def rtreePartsRow : OpenClaim := { program := "ytgobmiahhmajdaa", sum := "8bcb7e0511a24723c6e98b7935a946d16c0a47dcd85646a023f99b8071f93cf8", func := "bitemporal/bitemporallaw31.RtreeParts", spec := "rtreeParts", unfollowed := true, recurses := true, apart := false }
def RtreePartsSaid : Prop := rtreePartsRow.holds Try.pinned (OpenSpec.ofChange rtreePartsSpec)

/-- ITS FALSE NEIGHBOUR: 'it returns false'. Refute it at one input. -/
def rtreePartsWrong : ChangeSpec := { name := "rtreeParts", fn := fun _ => fun
  | [d1, d2, d3, d4] => { results := [.lit (.bool false)], args := [d1, d2, d3, d4] }
  | _ => none }
def RtreePartsWrongFalsely : Prop := rtreePartsRow.holds Try.pinned (OpenSpec.ofChange rtreePartsWrong)

/-- 'bitemporallaw31.RtreePrunes': WHATEVER THE INPUT: true; the input reads as it did. -/
def rtreePrunesSpec : ChangeSpec := { name := "rtreePrunes", fn := fun _ => fun
  | [d1, d2, d3] => { results := [.lit (.bool true)], args := [d1, d2, d3] }
  | _ => none }
def rtreePrunesRow : OpenClaim := { program := "ytgobmiahhmajdaa", sum := "8bcb7e0511a24723c6e98b7935a946d16c0a47dcd85646a023f99b8071f93cf8", func := "bitemporal/bitemporallaw31.RtreePrunes", spec := "rtreePrunes", unfollowed := true, recurses := true, apart := false }
def RtreePrunesSaid : Prop := rtreePrunesRow.holds Try.pinned (OpenSpec.ofChange rtreePrunesSpec)

/-- ITS FALSE NEIGHBOUR: 'it returns false'. Refute it at one input. -/
def rtreePrunesWrong : ChangeSpec := { name := "rtreePrunes", fn := fun _ => fun
  | [d1, d2, d3] => { results := [.lit (.bool false)], args := [d1, d2, d3] }
  | _ => none }
def RtreePrunesWrongFalsely : Prop := rtreePrunesRow.holds Try.pinned (OpenSpec.ofChange rtreePrunesWrong)

/- THE SECOND FORM. 'bulk': how many values and letters a reading holds, each counted each time it is reached (what is shared counts as often as it is met; a slice's spare places count too). A statement '..UptoSaid' is the law's where the arguments, and the package variables that the reading takes, are together of bulk at most 1048576: NARROWER than '..Said'. Prove '..Said' where nothing that the law and all that it calls make is longer than what came in: it says more and counts as full. Else prove '..UptoSaid'. A law counts once. -/
mutual
def uptoBulk {H : Type} : DataW H → Nat
  | .lit (.string bytes) => bytes.length + 1
  | .lit _ => 1
  | .nil => 1
  | .ptr d => uptoBulk d + 1
  | .slice elems spare => uptoBulkAll elems + uptoBulkAll spare + 1
  | .agg parts => uptoBulkAll parts + 1
  | .iface _ d => uptoBulk d + 1
  | .map entries => uptoBulkEntries entries + 1
  | .held _ => 1
def uptoBulkAll {H : Type} : List (DataW H) → Nat
  | [] => 0
  | d :: r => uptoBulk d + uptoBulkAll r
def uptoBulkEntries {H : Type} : List (Lit × DataW H) → Nat
  | [] => 0
  | x :: r => uptoBulkEntry x + uptoBulkEntries r
def uptoBulkEntry {H : Type} : Lit × DataW H → Nat
  | (.string bytes, d) => bytes.length + uptoBulk d + 1
  | (_, d) => uptoBulk d + 1
 end
def uptoSmall : (H : Type) → List (DataW H) → Bool := fun _ ds => decide (uptoBulkAll ds ≤ 1048576)
def OpenSpec.upto (s : _root_.Go.ChangeSpec) : _root_.Go.OpenSpec := { _root_.Go.OpenSpec.ofChange s with cond := some uptoSmall }

/-- 'bitemporallaw31.RtreeBuild', WHERE WHAT IT READS IS OF BULK AT MOST 1048576: true; the input reads as it did. -/
def rtreeBuildUptoRow : OpenClaim := { program := "ytgobmiahhmajdaa", sum := "8bcb7e0511a24723c6e98b7935a946d16c0a47dcd85646a023f99b8071f93cf8", func := "bitemporal/bitemporallaw31.RtreeBuild", spec := "rtreeBuild", unfollowed := true, recurses := true, apart := false, narrowed := true }
def RtreeBuildUptoSaid : Prop := rtreeBuildUptoRow.holds Try.pinned (OpenSpec.upto rtreeBuildSpec)

/-- 'bitemporallaw31.RtreeSearch', WHERE WHAT IT READS IS OF BULK AT MOST 1048576: true; the input reads as it did. -/
def rtreeSearchUptoRow : OpenClaim := { program := "ytgobmiahhmajdaa", sum := "8bcb7e0511a24723c6e98b7935a946d16c0a47dcd85646a023f99b8071f93cf8", func := "bitemporal/bitemporallaw31.RtreeSearch", spec := "rtreeSearch", unfollowed := true, recurses := true, apart := false, narrowed := true }
def RtreeSearchUptoSaid : Prop := rtreeSearchUptoRow.holds Try.pinned (OpenSpec.upto rtreeSearchSpec)

/-- 'bitemporallaw31.RtreeStab', WHERE WHAT IT READS IS OF BULK AT MOST 1048576: true; the input reads as it did. -/
def rtreeStabUptoRow : OpenClaim := { program := "ytgobmiahhmajdaa", sum := "8bcb7e0511a24723c6e98b7935a946d16c0a47dcd85646a023f99b8071f93cf8", func := "bitemporal/bitemporallaw31.RtreeStab", spec := "rtreeStab", unfollowed := true, recurses := true, apart := false, narrowed := true }
def RtreeStabUptoSaid : Prop := rtreeStabUptoRow.holds Try.pinned (OpenSpec.upto rtreeStabSpec)

/-- 'bitemporallaw31.RtreeSame', WHERE WHAT IT READS IS OF BULK AT MOST 1048576: true; the input reads as it did. -/
def rtreeSameUptoRow : OpenClaim := { program := "ytgobmiahhmajdaa", sum := "8bcb7e0511a24723c6e98b7935a946d16c0a47dcd85646a023f99b8071f93cf8", func := "bitemporal/bitemporallaw31.RtreeSame", spec := "rtreeSame", unfollowed := true, recurses := true, apart := false, narrowed := true }
def RtreeSameUptoSaid : Prop := rtreeSameUptoRow.holds Try.pinned (OpenSpec.upto rtreeSameSpec)

/-- 'bitemporallaw31.RtreeParts', WHERE WHAT IT READS IS OF BULK AT MOST 1048576: true; the input reads as it did. -/
def rtreePartsUptoRow : OpenClaim := { program := "ytgobmiahhmajdaa", sum := "8bcb7e0511a24723c6e98b7935a946d16c0a47dcd85646a023f99b8071f93cf8", func := "bitemporal/bitemporallaw31.RtreeParts", spec := "rtreeParts", unfollowed := true, recurses := true, apart := false, narrowed := true }
def RtreePartsUptoSaid : Prop := rtreePartsUptoRow.holds Try.pinned (OpenSpec.upto rtreePartsSpec)

/-- 'bitemporallaw31.RtreePrunes', WHERE WHAT IT READS IS OF BULK AT MOST 1048576: true; the input reads as it did. -/
def rtreePrunesUptoRow : OpenClaim := { program := "ytgobmiahhmajdaa", sum := "8bcb7e0511a24723c6e98b7935a946d16c0a47dcd85646a023f99b8071f93cf8", func := "bitemporal/bitemporallaw31.RtreePrunes", spec := "rtreePrunes", unfollowed := true, recurses := true, apart := false, narrowed := true }
def RtreePrunesUptoSaid : Prop := rtreePrunesUptoRow.holds Try.pinned (OpenSpec.upto rtreePrunesSpec)

end Rows
end Go.Proofs.Ytgobmiahhmajdaa
