/-
  No cell of these rows narrows 'for every input' (looked for: loops, veiled, ifaces, maps, wideKeys, modest, calm, conditions, laid).
  DERIVED. THE GIVEN ROWS OF THIS SEAT. 4 by the template 'for every input the law returns true; each argument reads behind the call as it read before'; 0 by the template 'total and deterministic' (their statements: YtccndjnaakmlkaaGreatTotals.lean).
  GIVEN WITH THE SEED: the statements are not yours to turn. If you find one false, say at which input.
  Laid BY PROGRAM, IN A SANDBOX (cutbox-rows.mjs): the forced cells as the released guide's own fill.sh prints them over the translation 6a7538af17cfd882… (all of the seat's roots in one cut). By AI agents, Wed Nov 11 2026. No macro, syntax, notation, axiom, sorry.
-/
import Derived.Test.YtccndjnaakmlkaaGreatChecked
import GoSem.Claim
import GoSem.ClaimJoined
import GoSem.ClaimMapViews
import Derived.JoinedTies
import Derived.KernelRfl
namespace Go.Proofs.YtccndjnaakmlkaaGreat
/- THE CELL 'sum', in the pinned program and in every row, IS THE sha256 OF THE DUMP (.gsa) THAT YtccndjnaakmlkaaGreatProg.lean LOADS. Nothing in Lean hashes anything: it is a label: what it is worth is what the hold of that sum in a sandbox is worth. -/
noncomputable def Tryz.pinned : Pinned := { name := "ytccndjnaakmlkaagreat", sum := "6a7538af17cfd88203bbf6f9bb112f1d88e0c3424cd4e182eadbf2501f675cf4", checked := Tryz.checked }
namespace Rows
def none {H : Type} : Left H := { results := [], args := [] }

/-- 'bitemporallaw33.RetentionPoints': WHATEVER THE INPUT: true; the input reads as it did. -/
def retentionPointsSpec : ChangeSpec := { name := "retentionPoints", fn := fun _ => fun
  | [d] => { results := [.lit (.bool true)], args := [d] }
  | _ => none }
def retentionPointsRow : OpenClaim := { program := "ytccndjnaakmlkaagreat", sum := "6a7538af17cfd88203bbf6f9bb112f1d88e0c3424cd4e182eadbf2501f675cf4", func := "bitemporal/bitemporallaw33.RetentionPoints", spec := "retentionPoints", unfollowed := true, recurses := true, apart := false }
def RetentionPointsSaid : Prop := retentionPointsRow.holds Tryz.pinned (OpenSpec.ofChange retentionPointsSpec)

/-- ITS FALSE NEIGHBOUR: 'it returns false'. Refute it at one input. -/
def retentionPointsWrong : ChangeSpec := { name := "retentionPoints", fn := fun _ => fun
  | [d] => { results := [.lit (.bool false)], args := [d] }
  | _ => none }
def RetentionPointsWrongFalsely : Prop := retentionPointsRow.holds Tryz.pinned (OpenSpec.ofChange retentionPointsWrong)

/-- 'bitemporallaw33.RetentionPrune': WHATEVER THE INPUT: true; the input reads as it did. -/
def retentionPruneSpec : ChangeSpec := { name := "retentionPrune", fn := fun _ => fun
  | [d] => { results := [.lit (.bool true)], args := [d] }
  | _ => none }
def retentionPruneRow : OpenClaim := { program := "ytccndjnaakmlkaagreat", sum := "6a7538af17cfd88203bbf6f9bb112f1d88e0c3424cd4e182eadbf2501f675cf4", func := "bitemporal/bitemporallaw33.RetentionPrune", spec := "retentionPrune", unfollowed := true, recurses := true, apart := false }
def RetentionPruneSaid : Prop := retentionPruneRow.holds Tryz.pinned (OpenSpec.ofChange retentionPruneSpec)

/-- ITS FALSE NEIGHBOUR: 'it returns false'. Refute it at one input. -/
def retentionPruneWrong : ChangeSpec := { name := "retentionPrune", fn := fun _ => fun
  | [d] => { results := [.lit (.bool false)], args := [d] }
  | _ => none }
def RetentionPruneWrongFalsely : Prop := retentionPruneRow.holds Tryz.pinned (OpenSpec.ofChange retentionPruneWrong)

/-- 'bitemporallaw33.RetentionComplete': WHATEVER THE INPUT: true; the input reads as it did. -/
def retentionCompleteSpec : ChangeSpec := { name := "retentionComplete", fn := fun _ => fun
  | [d] => { results := [.lit (.bool true)], args := [d] }
  | _ => none }
def retentionCompleteRow : OpenClaim := { program := "ytccndjnaakmlkaagreat", sum := "6a7538af17cfd88203bbf6f9bb112f1d88e0c3424cd4e182eadbf2501f675cf4", func := "bitemporal/bitemporallaw33.RetentionComplete", spec := "retentionComplete", unfollowed := true, recurses := true, apart := false }
def RetentionCompleteSaid : Prop := retentionCompleteRow.holds Tryz.pinned (OpenSpec.ofChange retentionCompleteSpec)

/-- ITS FALSE NEIGHBOUR: 'it returns false'. Refute it at one input. -/
def retentionCompleteWrong : ChangeSpec := { name := "retentionComplete", fn := fun _ => fun
  | [d] => { results := [.lit (.bool false)], args := [d] }
  | _ => none }
def RetentionCompleteWrongFalsely : Prop := retentionCompleteRow.holds Tryz.pinned (OpenSpec.ofChange retentionCompleteWrong)

/-- 'bitemporallaw33.RetentionLost': WHATEVER THE INPUT: true; the input reads as it did. -/
def retentionLostSpec : ChangeSpec := { name := "retentionLost", fn := fun _ => fun
  | [d] => { results := [.lit (.bool true)], args := [d] }
  | _ => none }
def retentionLostRow : OpenClaim := { program := "ytccndjnaakmlkaagreat", sum := "6a7538af17cfd88203bbf6f9bb112f1d88e0c3424cd4e182eadbf2501f675cf4", func := "bitemporal/bitemporallaw33.RetentionLost", spec := "retentionLost", unfollowed := true, recurses := true, apart := false }
def RetentionLostSaid : Prop := retentionLostRow.holds Tryz.pinned (OpenSpec.ofChange retentionLostSpec)

/-- ITS FALSE NEIGHBOUR: 'it returns false'. Refute it at one input. -/
def retentionLostWrong : ChangeSpec := { name := "retentionLost", fn := fun _ => fun
  | [d] => { results := [.lit (.bool false)], args := [d] }
  | _ => none }
def RetentionLostWrongFalsely : Prop := retentionLostRow.holds Tryz.pinned (OpenSpec.ofChange retentionLostWrong)

/- THE SECOND FORM. 'bulk': how many values and letters a reading holds, each counted each time it is reached (what is shared counts as often as it is met; a slice's spare places count too). A statement '..UptoSaid' is the law's where the arguments, and the package variables that the reading takes, are together of bulk at most 1048576: NARROWER than '..Said'. Prove '..Said' where nothing that the law and all that it calls make is longer than what came in: it says more and counts as full. Else prove '..UptoSaid'. A law counts once. -/
mutual
def uptoBulk {H : Type} : DataW H → Nat
  | .lit (.string bytes) => bytes.length + 1
  | .lit _ => 1
  | .nil => 1
  | .ptr d => uptoBulk d + 1
  | .slice elems spare => uptoBulkAll elems + uptoBulkAll spare + 1
  | .agg parts => uptoBulkAll parts + 1
  | .iface _ d => uptoBulk d + 1
  | .map entries => uptoBulkEntries entries + 1
  | .held _ => 1
def uptoBulkAll {H : Type} : List (DataW H) → Nat
  | [] => 0
  | d :: r => uptoBulk d + uptoBulkAll r
def uptoBulkEntries {H : Type} : List (Lit × DataW H) → Nat
  | [] => 0
  | x :: r => uptoBulkEntry x + uptoBulkEntries r
def uptoBulkEntry {H : Type} : Lit × DataW H → Nat
  | (.string bytes, d) => bytes.length + uptoBulk d + 1
  | (_, d) => uptoBulk d + 1
 end
def uptoSmall : (H : Type) → List (DataW H) → Bool := fun _ ds => decide (uptoBulkAll ds ≤ 1048576)
def OpenSpec.upto (s : _root_.Go.ChangeSpec) : _root_.Go.OpenSpec := { _root_.Go.OpenSpec.ofChange s with cond := some uptoSmall }

/-- 'bitemporallaw33.RetentionPoints', WHERE WHAT IT READS IS OF BULK AT MOST 1048576: true; the input reads as it did. -/
def retentionPointsUptoRow : OpenClaim := { program := "ytccndjnaakmlkaagreat", sum := "6a7538af17cfd88203bbf6f9bb112f1d88e0c3424cd4e182eadbf2501f675cf4", func := "bitemporal/bitemporallaw33.RetentionPoints", spec := "retentionPoints", unfollowed := true, recurses := true, apart := false, narrowed := true }
def RetentionPointsUptoSaid : Prop := retentionPointsUptoRow.holds Tryz.pinned (OpenSpec.upto retentionPointsSpec)

/-- 'bitemporallaw33.RetentionPrune', WHERE WHAT IT READS IS OF BULK AT MOST 1048576: true; the input reads as it did. -/
def retentionPruneUptoRow : OpenClaim := { program := "ytccndjnaakmlkaagreat", sum := "6a7538af17cfd88203bbf6f9bb112f1d88e0c3424cd4e182eadbf2501f675cf4", func := "bitemporal/bitemporallaw33.RetentionPrune", spec := "retentionPrune", unfollowed := true, recurses := true, apart := false, narrowed := true }
def RetentionPruneUptoSaid : Prop := retentionPruneUptoRow.holds Tryz.pinned (OpenSpec.upto retentionPruneSpec)

/-- 'bitemporallaw33.RetentionComplete', WHERE WHAT IT READS IS OF BULK AT MOST 1048576: true; the input reads as it did. -/
def retentionCompleteUptoRow : OpenClaim := { program := "ytccndjnaakmlkaagreat", sum := "6a7538af17cfd88203bbf6f9bb112f1d88e0c3424cd4e182eadbf2501f675cf4", func := "bitemporal/bitemporallaw33.RetentionComplete", spec := "retentionComplete", unfollowed := true, recurses := true, apart := false, narrowed := true }
def RetentionCompleteUptoSaid : Prop := retentionCompleteUptoRow.holds Tryz.pinned (OpenSpec.upto retentionCompleteSpec)

/-- 'bitemporallaw33.RetentionLost', WHERE WHAT IT READS IS OF BULK AT MOST 1048576: true; the input reads as it did. -/
def retentionLostUptoRow : OpenClaim := { program := "ytccndjnaakmlkaagreat", sum := "6a7538af17cfd88203bbf6f9bb112f1d88e0c3424cd4e182eadbf2501f675cf4", func := "bitemporal/bitemporallaw33.RetentionLost", spec := "retentionLost", unfollowed := true, recurses := true, apart := false, narrowed := true }
def RetentionLostUptoSaid : Prop := retentionLostUptoRow.holds Tryz.pinned (OpenSpec.upto retentionLostSpec)

end Rows
end Go.Proofs.YtccndjnaakmlkaaGreat
