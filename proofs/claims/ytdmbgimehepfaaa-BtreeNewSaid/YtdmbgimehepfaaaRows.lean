/-
  No cell of these rows narrows 'for every input' (looked for: loops, veiled, ifaces, maps, wideKeys, modest, calm, conditions, laid).
  DERIVED. THE GIVEN ROWS OF THIS SEAT. 6 by the template 'for every input the law returns true; each argument reads behind the call as it read before'; 0 by the template 'total and deterministic' (their statements: YtdmbgimehepfaaaTotals.lean).
  GIVEN WITH THE SEED: the statements are not yours to turn. If you find one false, say at which input.
  Laid BY PROGRAM, IN A SANDBOX (cutbox-rows.mjs): the forced cells as the released guide's own fill.sh prints them over the translation 53948920879882b8… (all of the seat's roots in one cut). By AI agents, Wed Nov 11 2026. No macro, syntax, notation, axiom, sorry.
-/
import Derived.Test.YtdmbgimehepfaaaChecked
import GoSem.Claim
import GoSem.ClaimJoined
import GoSem.ClaimMapViews
import Derived.JoinedTies
import Derived.KernelRfl
namespace Go.Proofs.Ytdmbgimehepfaaa
/- THE CELL 'sum', in the pinned program and in every row, IS THE sha256 OF THE DUMP (.gsa) THAT YtdmbgimehepfaaaProg.lean LOADS. Nothing in Lean hashes anything: it is a label: what it is worth is what the hold of that sum in a sandbox is worth. -/
noncomputable def Try.pinned : Pinned := { name := "ytdmbgimehepfaaa", sum := "53948920879882b8a9b99fdd2547764c95d0b9bc40a704c2f6cff26d9c6a9920", checked := Try.checked }
namespace Rows
def none {H : Type} : Left H := { results := [], args := [] }

/-- 'bitemporallaw30.BtreeNew': WHATEVER THE INPUT: true; the input reads as it did. -/
def btreeNewSpec : ChangeSpec := { name := "btreeNew", fn := fun _ => fun
  | [d1, d2] => { results := [.lit (.bool true)], args := [d1, d2] }
  | _ => none }
def btreeNewRow : OpenClaim := { program := "ytdmbgimehepfaaa", sum := "53948920879882b8a9b99fdd2547764c95d0b9bc40a704c2f6cff26d9c6a9920", func := "bitemporal/bitemporallaw30.BtreeNew", spec := "btreeNew", inPlace := ["internal/bytealg.abigen_runtime_cmpstring", "slices.overlaps[bitemporal/btree.pair]", "slices.overlaps[*bitemporal/btree.node]"], unfollowed := true, recurses := true, apart := false }
def BtreeNewSaid : Prop := btreeNewRow.holds Try.pinned (OpenSpec.ofChange btreeNewSpec)

/-- ITS FALSE NEIGHBOUR: 'it returns false'. Refute it at one input. -/
def btreeNewWrong : ChangeSpec := { name := "btreeNew", fn := fun _ => fun
  | [d1, d2] => { results := [.lit (.bool false)], args := [d1, d2] }
  | _ => none }
def BtreeNewWrongFalsely : Prop := btreeNewRow.holds Try.pinned (OpenSpec.ofChange btreeNewWrong)

/-- 'bitemporallaw30.BtreeActs': WHATEVER THE INPUT: true; the input reads as it did. -/
def btreeActsSpec : ChangeSpec := { name := "btreeActs", fn := fun _ => fun
  | [d1, d2] => { results := [.lit (.bool true)], args := [d1, d2] }
  | _ => none }
def btreeActsRow : OpenClaim := { program := "ytdmbgimehepfaaa", sum := "53948920879882b8a9b99fdd2547764c95d0b9bc40a704c2f6cff26d9c6a9920", func := "bitemporal/bitemporallaw30.BtreeActs", spec := "btreeActs", inPlace := ["internal/bytealg.abigen_runtime_cmpstring", "slices.overlaps[bitemporal/btree.pair]", "slices.overlaps[*bitemporal/btree.node]"], unfollowed := true, recurses := true, apart := false }
def BtreeActsSaid : Prop := btreeActsRow.holds Try.pinned (OpenSpec.ofChange btreeActsSpec)

/-- ITS FALSE NEIGHBOUR: 'it returns false'. Refute it at one input. -/
def btreeActsWrong : ChangeSpec := { name := "btreeActs", fn := fun _ => fun
  | [d1, d2] => { results := [.lit (.bool false)], args := [d1, d2] }
  | _ => none }
def BtreeActsWrongFalsely : Prop := btreeActsRow.holds Try.pinned (OpenSpec.ofChange btreeActsWrong)

/-- 'bitemporallaw30.BtreeFinds': WHATEVER THE INPUT: true; the input reads as it did. -/
def btreeFindsSpec : ChangeSpec := { name := "btreeFinds", fn := fun _ => fun
  | [d1, d2, d3, d4] => { results := [.lit (.bool true)], args := [d1, d2, d3, d4] }
  | _ => none }
def btreeFindsRow : OpenClaim := { program := "ytdmbgimehepfaaa", sum := "53948920879882b8a9b99fdd2547764c95d0b9bc40a704c2f6cff26d9c6a9920", func := "bitemporal/bitemporallaw30.BtreeFinds", spec := "btreeFinds", inPlace := ["internal/bytealg.abigen_runtime_cmpstring", "slices.overlaps[bitemporal/btree.pair]", "slices.overlaps[*bitemporal/btree.node]"], unfollowed := true, recurses := true, apart := false }
def BtreeFindsSaid : Prop := btreeFindsRow.holds Try.pinned (OpenSpec.ofChange btreeFindsSpec)

/-- ITS FALSE NEIGHBOUR: 'it returns false'. Refute it at one input. -/
def btreeFindsWrong : ChangeSpec := { name := "btreeFinds", fn := fun _ => fun
  | [d1, d2, d3, d4] => { results := [.lit (.bool false)], args := [d1, d2, d3, d4] }
  | _ => none }
def BtreeFindsWrongFalsely : Prop := btreeFindsRow.holds Try.pinned (OpenSpec.ofChange btreeFindsWrong)

/-- 'bitemporallaw30.BtreeDepth': WHATEVER THE INPUT: true; the input reads as it did. -/
def btreeDepthSpec : ChangeSpec := { name := "btreeDepth", fn := fun _ => fun
  | [d1, d2] => { results := [.lit (.bool true)], args := [d1, d2] }
  | _ => none }
def btreeDepthRow : OpenClaim := { program := "ytdmbgimehepfaaa", sum := "53948920879882b8a9b99fdd2547764c95d0b9bc40a704c2f6cff26d9c6a9920", func := "bitemporal/bitemporallaw30.BtreeDepth", spec := "btreeDepth", inPlace := ["internal/bytealg.abigen_runtime_cmpstring", "slices.overlaps[bitemporal/btree.pair]", "slices.overlaps[*bitemporal/btree.node]"], unfollowed := true, recurses := true, apart := false }
def BtreeDepthSaid : Prop := btreeDepthRow.holds Try.pinned (OpenSpec.ofChange btreeDepthSpec)

/-- ITS FALSE NEIGHBOUR: 'it returns false'. Refute it at one input. -/
def btreeDepthWrong : ChangeSpec := { name := "btreeDepth", fn := fun _ => fun
  | [d1, d2] => { results := [.lit (.bool false)], args := [d1, d2] }
  | _ => none }
def BtreeDepthWrongFalsely : Prop := btreeDepthRow.holds Try.pinned (OpenSpec.ofChange btreeDepthWrong)

/-- 'bitemporallaw30.BtreeRanges': WHATEVER THE INPUT: true; the input reads as it did. -/
def btreeRangesSpec : ChangeSpec := { name := "btreeRanges", fn := fun _ => fun
  | [d1, d2, d3, d4, d5] => { results := [.lit (.bool true)], args := [d1, d2, d3, d4, d5] }
  | _ => none }
def btreeRangesRow : OpenClaim := { program := "ytdmbgimehepfaaa", sum := "53948920879882b8a9b99fdd2547764c95d0b9bc40a704c2f6cff26d9c6a9920", func := "bitemporal/bitemporallaw30.BtreeRanges", spec := "btreeRanges", inPlace := ["internal/bytealg.abigen_runtime_cmpstring", "slices.overlaps[bitemporal/btree.pair]", "slices.overlaps[*bitemporal/btree.node]"], unfollowed := true, recurses := true, apart := false }
def BtreeRangesSaid : Prop := btreeRangesRow.holds Try.pinned (OpenSpec.ofChange btreeRangesSpec)

/-- ITS FALSE NEIGHBOUR: 'it returns false'. Refute it at one input. -/
def btreeRangesWrong : ChangeSpec := { name := "btreeRanges", fn := fun _ => fun
  | [d1, d2, d3, d4, d5] => { results := [.lit (.bool false)], args := [d1, d2, d3, d4, d5] }
  | _ => none }
def BtreeRangesWrongFalsely : Prop := btreeRangesRow.holds Try.pinned (OpenSpec.ofChange btreeRangesWrong)

/-- 'bitemporallaw30.BtreeGone': WHATEVER THE INPUT: true; the input reads as it did. -/
def btreeGoneSpec : ChangeSpec := { name := "btreeGone", fn := fun _ => fun
  | [d1, d2, d3] => { results := [.lit (.bool true)], args := [d1, d2, d3] }
  | _ => none }
def btreeGoneRow : OpenClaim := { program := "ytdmbgimehepfaaa", sum := "53948920879882b8a9b99fdd2547764c95d0b9bc40a704c2f6cff26d9c6a9920", func := "bitemporal/bitemporallaw30.BtreeGone", spec := "btreeGone", inPlace := ["internal/bytealg.abigen_runtime_cmpstring", "slices.overlaps[bitemporal/btree.pair]", "slices.overlaps[*bitemporal/btree.node]"], unfollowed := true, recurses := true, apart := false }
def BtreeGoneSaid : Prop := btreeGoneRow.holds Try.pinned (OpenSpec.ofChange btreeGoneSpec)

/-- ITS FALSE NEIGHBOUR: 'it returns false'. Refute it at one input. -/
def btreeGoneWrong : ChangeSpec := { name := "btreeGone", fn := fun _ => fun
  | [d1, d2, d3] => { results := [.lit (.bool false)], args := [d1, d2, d3] }
  | _ => none }
def BtreeGoneWrongFalsely : Prop := btreeGoneRow.holds Try.pinned (OpenSpec.ofChange btreeGoneWrong)

/- THE SECOND FORM. 'bulk': how many values and letters a reading holds, each counted each time it is reached (what is shared counts as often as it is met; a slice's spare places count too). A statement '..UptoSaid' is the law's where the arguments, and the package variables that the reading takes, are together of bulk at most 1048576: NARROWER than '..Said'. Prove '..Said' where nothing that the law and all that it calls make is longer than what came in: it says more and counts as full. Else prove '..UptoSaid'. A law counts once. -/
mutual
def uptoBulk {H : Type} : DataW H → Nat
  | .lit (.string bytes) => bytes.length + 1
  | .lit _ => 1
  | .nil => 1
  | .ptr d => uptoBulk d + 1
  | .slice elems spare => uptoBulkAll elems + uptoBulkAll spare + 1
  | .agg parts => uptoBulkAll parts + 1
  | .iface _ d => uptoBulk d + 1
  | .map entries => uptoBulkEntries entries + 1
  | .held _ => 1
def uptoBulkAll {H : Type} : List (DataW H) → Nat
  | [] => 0
  | d :: r => uptoBulk d + uptoBulkAll r
def uptoBulkEntries {H : Type} : List (Lit × DataW H) → Nat
  | [] => 0
  | x :: r => uptoBulkEntry x + uptoBulkEntries r
def uptoBulkEntry {H : Type} : Lit × DataW H → Nat
  | (.string bytes, d) => bytes.length + uptoBulk d + 1
  | (_, d) => uptoBulk d + 1
 end
def uptoSmall : (H : Type) → List (DataW H) → Bool := fun _ ds => decide (uptoBulkAll ds ≤ 1048576)
def OpenSpec.upto (s : _root_.Go.ChangeSpec) : _root_.Go.OpenSpec := { _root_.Go.OpenSpec.ofChange s with cond := some uptoSmall }

/-- 'bitemporallaw30.BtreeNew', WHERE WHAT IT READS IS OF BULK AT MOST 1048576: true; the input reads as it did. -/
def btreeNewUptoRow : OpenClaim := { program := "ytdmbgimehepfaaa", sum := "53948920879882b8a9b99fdd2547764c95d0b9bc40a704c2f6cff26d9c6a9920", func := "bitemporal/bitemporallaw30.BtreeNew", spec := "btreeNew", inPlace := ["internal/bytealg.abigen_runtime_cmpstring", "slices.overlaps[bitemporal/btree.pair]", "slices.overlaps[*bitemporal/btree.node]"], unfollowed := true, recurses := true, apart := false, narrowed := true }
def BtreeNewUptoSaid : Prop := btreeNewUptoRow.holds Try.pinned (OpenSpec.upto btreeNewSpec)

/-- 'bitemporallaw30.BtreeActs', WHERE WHAT IT READS IS OF BULK AT MOST 1048576: true; the input reads as it did. -/
def btreeActsUptoRow : OpenClaim := { program := "ytdmbgimehepfaaa", sum := "53948920879882b8a9b99fdd2547764c95d0b9bc40a704c2f6cff26d9c6a9920", func := "bitemporal/bitemporallaw30.BtreeActs", spec := "btreeActs", inPlace := ["internal/bytealg.abigen_runtime_cmpstring", "slices.overlaps[bitemporal/btree.pair]", "slices.overlaps[*bitemporal/btree.node]"], unfollowed := true, recurses := true, apart := false, narrowed := true }
def BtreeActsUptoSaid : Prop := btreeActsUptoRow.holds Try.pinned (OpenSpec.upto btreeActsSpec)

/-- 'bitemporallaw30.BtreeFinds', WHERE WHAT IT READS IS OF BULK AT MOST 1048576: true; the input reads as it did. -/
def btreeFindsUptoRow : OpenClaim := { program := "ytdmbgimehepfaaa", sum := "53948920879882b8a9b99fdd2547764c95d0b9bc40a704c2f6cff26d9c6a9920", func := "bitemporal/bitemporallaw30.BtreeFinds", spec := "btreeFinds", inPlace := ["internal/bytealg.abigen_runtime_cmpstring", "slices.overlaps[bitemporal/btree.pair]", "slices.overlaps[*bitemporal/btree.node]"], unfollowed := true, recurses := true, apart := false, narrowed := true }
def BtreeFindsUptoSaid : Prop := btreeFindsUptoRow.holds Try.pinned (OpenSpec.upto btreeFindsSpec)

/-- 'bitemporallaw30.BtreeDepth', WHERE WHAT IT READS IS OF BULK AT MOST 1048576: true; the input reads as it did. -/
def btreeDepthUptoRow : OpenClaim := { program := "ytdmbgimehepfaaa", sum := "53948920879882b8a9b99fdd2547764c95d0b9bc40a704c2f6cff26d9c6a9920", func := "bitemporal/bitemporallaw30.BtreeDepth", spec := "btreeDepth", inPlace := ["internal/bytealg.abigen_runtime_cmpstring", "slices.overlaps[bitemporal/btree.pair]", "slices.overlaps[*bitemporal/btree.node]"], unfollowed := true, recurses := true, apart := false, narrowed := true }
def BtreeDepthUptoSaid : Prop := btreeDepthUptoRow.holds Try.pinned (OpenSpec.upto btreeDepthSpec)

/-- 'bitemporallaw30.BtreeRanges', WHERE WHAT IT READS IS OF BULK AT MOST 1048576: true; the input reads as it did. -/
def btreeRangesUptoRow : OpenClaim := { program := "ytdmbgimehepfaaa", sum := "53948920879882b8a9b99fdd2547764c95d0b9bc40a704c2f6cff26d9c6a9920", func := "bitemporal/bitemporallaw30.BtreeRanges", spec := "btreeRanges", inPlace := ["internal/bytealg.abigen_runtime_cmpstring", "slices.overlaps[bitemporal/btree.pair]", "slices.overlaps[*bitemporal/btree.node]"], unfollowed := true, recurses := true, apart := false, narrowed := true }
def BtreeRangesUptoSaid : Prop := btreeRangesUptoRow.holds Try.pinned (OpenSpec.upto btreeRangesSpec)

/-- 'bitemporallaw30.BtreeGone', WHERE WHAT IT READS IS OF BULK AT MOST 1048576: true; the input reads as it did. -/
def btreeGoneUptoRow : OpenClaim := { program := "ytdmbgimehepfaaa", sum := "53948920879882b8a9b99fdd2547764c95d0b9bc40a704c2f6cff26d9c6a9920", func := "bitemporal/bitemporallaw30.BtreeGone", spec := "btreeGone", inPlace := ["internal/bytealg.abigen_runtime_cmpstring", "slices.overlaps[bitemporal/btree.pair]", "slices.overlaps[*bitemporal/btree.node]"], unfollowed := true, recurses := true, apart := false, narrowed := true }
def BtreeGoneUptoSaid : Prop := btreeGoneUptoRow.holds Try.pinned (OpenSpec.upto btreeGoneSpec)

end Rows
end Go.Proofs.Ytdmbgimehepfaaa
