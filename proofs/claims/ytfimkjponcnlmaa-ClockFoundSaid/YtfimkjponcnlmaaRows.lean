/-
  No cell of these rows narrows 'for every input' (looked for: loops, veiled, ifaces, maps, wideKeys, modest, calm, conditions, laid).
  DERIVED. THE GIVEN ROWS OF THIS SEAT. 7 by the template 'for every input the law returns true; each argument reads behind the call as it read before'; 0 by the template 'total and deterministic' (their statements: YtfimkjponcnlmaaTotals.lean).
  GIVEN WITH THE SEED: the statements are not yours to turn. If you find one false, say at which input.
  Laid BY PROGRAM, IN A SANDBOX (cutbox-rows.mjs): the forced cells as the released guide's own fill.sh prints them over the translation 3216159c3796a7c8… (all of the seat's roots in one cut). By AI agents, Wed Nov 11 2026. No macro, syntax, notation, axiom, sorry.
-/
import Derived.Test.YtfimkjponcnlmaaChecked
import GoSem.Claim
import GoSem.ClaimJoined
import GoSem.ClaimMapViews
import Derived.JoinedTies
import Derived.KernelRfl
namespace Go.Proofs.Ytfimkjponcnlmaa
/- THE CELL 'sum', in the pinned program and in every row, IS THE sha256 OF THE DUMP (.gsa) THAT YtfimkjponcnlmaaProg.lean LOADS. Nothing in Lean hashes anything: it is a label: what it is worth is what the hold of that sum in a sandbox is worth. -/
noncomputable def Try.pinned : Pinned := { name := "ytfimkjponcnlmaa", sum := "3216159c3796a7c85037cf649f756802a674ec4e430f103b16765e42d6fef5a8", checked := Try.checked }
namespace Rows
def none {H : Type} : Left H := { results := [], args := [] }

/-- 'bitemporallaw06.ClockNext': WHATEVER THE INPUT: true; the input reads as it did. -/
def clockNextSpec : ChangeSpec := { name := "clockNext", fn := fun _ => fun
  | [d1, d2] => { results := [.lit (.bool true)], args := [d1, d2] }
  | _ => none }
def clockNextRow : OpenClaim := { program := "ytfimkjponcnlmaa", sum := "3216159c3796a7c85037cf649f756802a674ec4e430f103b16765e42d6fef5a8", func := "bitemporal/bitemporallaw06.ClockNext", spec := "clockNext", unfollowed := true, recurses := true, apart := false }
def ClockNextSaid : Prop := clockNextRow.holds Try.pinned (OpenSpec.ofChange clockNextSpec)

/-- ITS FALSE NEIGHBOUR: 'it returns false'. Refute it at one input. -/
def clockNextWrong : ChangeSpec := { name := "clockNext", fn := fun _ => fun
  | [d1, d2] => { results := [.lit (.bool false)], args := [d1, d2] }
  | _ => none }
def ClockNextWrongFalsely : Prop := clockNextRow.holds Try.pinned (OpenSpec.ofChange clockNextWrong)

/-- 'bitemporallaw06.ClockCheck': WHATEVER THE INPUT: true; the input reads as it did. -/
def clockCheckSpec : ChangeSpec := { name := "clockCheck", fn := fun _ => fun
  | [d] => { results := [.lit (.bool true)], args := [d] }
  | _ => none }
def clockCheckRow : OpenClaim := { program := "ytfimkjponcnlmaa", sum := "3216159c3796a7c85037cf649f756802a674ec4e430f103b16765e42d6fef5a8", func := "bitemporal/bitemporallaw06.ClockCheck", spec := "clockCheck", unfollowed := true, recurses := true, apart := false }
def ClockCheckSaid : Prop := clockCheckRow.holds Try.pinned (OpenSpec.ofChange clockCheckSpec)

/-- ITS FALSE NEIGHBOUR: 'it returns false'. Refute it at one input. -/
def clockCheckWrong : ChangeSpec := { name := "clockCheck", fn := fun _ => fun
  | [d] => { results := [.lit (.bool false)], args := [d] }
  | _ => none }
def ClockCheckWrongFalsely : Prop := clockCheckRow.holds Try.pinned (OpenSpec.ofChange clockCheckWrong)

/-- 'bitemporallaw06.ClockSteps': WHATEVER THE INPUT: true; the input reads as it did. -/
def clockStepsSpec : ChangeSpec := { name := "clockSteps", fn := fun _ => fun
  | [d1, d2] => { results := [.lit (.bool true)], args := [d1, d2] }
  | _ => none }
def clockStepsRow : OpenClaim := { program := "ytfimkjponcnlmaa", sum := "3216159c3796a7c85037cf649f756802a674ec4e430f103b16765e42d6fef5a8", func := "bitemporal/bitemporallaw06.ClockSteps", spec := "clockSteps", unfollowed := true, recurses := true, apart := false }
def ClockStepsSaid : Prop := clockStepsRow.holds Try.pinned (OpenSpec.ofChange clockStepsSpec)

/-- ITS FALSE NEIGHBOUR: 'it returns false'. Refute it at one input. -/
def clockStepsWrong : ChangeSpec := { name := "clockSteps", fn := fun _ => fun
  | [d1, d2] => { results := [.lit (.bool false)], args := [d1, d2] }
  | _ => none }
def ClockStepsWrongFalsely : Prop := clockStepsRow.holds Try.pinned (OpenSpec.ofChange clockStepsWrong)

/-- 'bitemporallaw06.ClockShown': WHATEVER THE INPUT: true; the input reads as it did. -/
def clockShownSpec : ChangeSpec := { name := "clockShown", fn := fun _ => fun
  | [d1, d2] => { results := [.lit (.bool true)], args := [d1, d2] }
  | _ => none }
def clockShownRow : OpenClaim := { program := "ytfimkjponcnlmaa", sum := "3216159c3796a7c85037cf649f756802a674ec4e430f103b16765e42d6fef5a8", func := "bitemporal/bitemporallaw06.ClockShown", spec := "clockShown", unfollowed := true, recurses := true, apart := false }
def ClockShownSaid : Prop := clockShownRow.holds Try.pinned (OpenSpec.ofChange clockShownSpec)

/-- ITS FALSE NEIGHBOUR: 'it returns false'. Refute it at one input. -/
def clockShownWrong : ChangeSpec := { name := "clockShown", fn := fun _ => fun
  | [d1, d2] => { results := [.lit (.bool false)], args := [d1, d2] }
  | _ => none }
def ClockShownWrongFalsely : Prop := clockShownRow.holds Try.pinned (OpenSpec.ofChange clockShownWrong)

/-- 'bitemporallaw06.ClockReplay': WHATEVER THE INPUT: true; the input reads as it did. -/
def clockReplaySpec : ChangeSpec := { name := "clockReplay", fn := fun _ => fun
  | [d] => { results := [.lit (.bool true)], args := [d] }
  | _ => none }
def clockReplayRow : OpenClaim := { program := "ytfimkjponcnlmaa", sum := "3216159c3796a7c85037cf649f756802a674ec4e430f103b16765e42d6fef5a8", func := "bitemporal/bitemporallaw06.ClockReplay", spec := "clockReplay", unfollowed := true, recurses := true, apart := false }
def ClockReplaySaid : Prop := clockReplayRow.holds Try.pinned (OpenSpec.ofChange clockReplaySpec)

/-- ITS FALSE NEIGHBOUR: 'it returns false'. Refute it at one input. -/
def clockReplayWrong : ChangeSpec := { name := "clockReplay", fn := fun _ => fun
  | [d] => { results := [.lit (.bool false)], args := [d] }
  | _ => none }
def ClockReplayWrongFalsely : Prop := clockReplayRow.holds Try.pinned (OpenSpec.ofChange clockReplayWrong)

/-- 'bitemporallaw06.ClockOrder': WHATEVER THE INPUT: true; the input reads as it did. -/
def clockOrderSpec : ChangeSpec := { name := "clockOrder", fn := fun _ => fun
  | [d] => { results := [.lit (.bool true)], args := [d] }
  | _ => none }
def clockOrderRow : OpenClaim := { program := "ytfimkjponcnlmaa", sum := "3216159c3796a7c85037cf649f756802a674ec4e430f103b16765e42d6fef5a8", func := "bitemporal/bitemporallaw06.ClockOrder", spec := "clockOrder", unfollowed := true, recurses := true, apart := false }
def ClockOrderSaid : Prop := clockOrderRow.holds Try.pinned (OpenSpec.ofChange clockOrderSpec)

/-- ITS FALSE NEIGHBOUR: 'it returns false'. Refute it at one input. -/
def clockOrderWrong : ChangeSpec := { name := "clockOrder", fn := fun _ => fun
  | [d] => { results := [.lit (.bool false)], args := [d] }
  | _ => none }
def ClockOrderWrongFalsely : Prop := clockOrderRow.holds Try.pinned (OpenSpec.ofChange clockOrderWrong)

/-- 'bitemporallaw06.ClockFound': WHATEVER THE INPUT: true; the input reads as it did. -/
def clockFoundSpec : ChangeSpec := { name := "clockFound", fn := fun _ => fun
  | [d] => { results := [.lit (.bool true)], args := [d] }
  | _ => none }
def clockFoundRow : OpenClaim := { program := "ytfimkjponcnlmaa", sum := "3216159c3796a7c85037cf649f756802a674ec4e430f103b16765e42d6fef5a8", func := "bitemporal/bitemporallaw06.ClockFound", spec := "clockFound", unfollowed := true, recurses := true, apart := false }
def ClockFoundSaid : Prop := clockFoundRow.holds Try.pinned (OpenSpec.ofChange clockFoundSpec)

/-- ITS FALSE NEIGHBOUR: 'it returns false'. Refute it at one input. -/
def clockFoundWrong : ChangeSpec := { name := "clockFound", fn := fun _ => fun
  | [d] => { results := [.lit (.bool false)], args := [d] }
  | _ => none }
def ClockFoundWrongFalsely : Prop := clockFoundRow.holds Try.pinned (OpenSpec.ofChange clockFoundWrong)

/- THE SECOND FORM. 'bulk': how many values and letters a reading holds, each counted each time it is reached (what is shared counts as often as it is met; a slice's spare places count too). A statement '..UptoSaid' is the law's where the arguments, and the package variables that the reading takes, are together of bulk at most 1048576: NARROWER than '..Said'. Prove '..Said' where nothing that the law and all that it calls make is longer than what came in: it says more and counts as full. Else prove '..UptoSaid'. A law counts once. -/
mutual
def uptoBulk {H : Type} : DataW H → Nat
  | .lit (.string bytes) => bytes.length + 1
  | .lit _ => 1
  | .nil => 1
  | .ptr d => uptoBulk d + 1
  | .slice elems spare => uptoBulkAll elems + uptoBulkAll spare + 1
  | .agg parts => uptoBulkAll parts + 1
  | .iface _ d => uptoBulk d + 1
  | .map entries => uptoBulkEntries entries + 1
  | .held _ => 1
def uptoBulkAll {H : Type} : List (DataW H) → Nat
  | [] => 0
  | d :: r => uptoBulk d + uptoBulkAll r
def uptoBulkEntries {H : Type} : List (Lit × DataW H) → Nat
  | [] => 0
  | x :: r => uptoBulkEntry x + uptoBulkEntries r
def uptoBulkEntry {H : Type} : Lit × DataW H → Nat
  | (.string bytes, d) => bytes.length + uptoBulk d + 1
  | (_, d) => uptoBulk d + 1
 end
def uptoSmall : (H : Type) → List (DataW H) → Bool := fun _ ds => decide (uptoBulkAll ds ≤ 1048576)
def OpenSpec.upto (s : _root_.Go.ChangeSpec) : _root_.Go.OpenSpec := { _root_.Go.OpenSpec.ofChange s with cond := some uptoSmall }

/-- 'bitemporallaw06.ClockNext', WHERE WHAT IT READS IS OF BULK AT MOST 1048576: true; the input reads as it did. -/
def clockNextUptoRow : OpenClaim := { program := "ytfimkjponcnlmaa", sum := "3216159c3796a7c85037cf649f756802a674ec4e430f103b16765e42d6fef5a8", func := "bitemporal/bitemporallaw06.ClockNext", spec := "clockNext", unfollowed := true, recurses := true, apart := false, narrowed := true }
def ClockNextUptoSaid : Prop := clockNextUptoRow.holds Try.pinned (OpenSpec.upto clockNextSpec)

/-- 'bitemporallaw06.ClockCheck', WHERE WHAT IT READS IS OF BULK AT MOST 1048576: true; the input reads as it did. -/
def clockCheckUptoRow : OpenClaim := { program := "ytfimkjponcnlmaa", sum := "3216159c3796a7c85037cf649f756802a674ec4e430f103b16765e42d6fef5a8", func := "bitemporal/bitemporallaw06.ClockCheck", spec := "clockCheck", unfollowed := true, recurses := true, apart := false, narrowed := true }
def ClockCheckUptoSaid : Prop := clockCheckUptoRow.holds Try.pinned (OpenSpec.upto clockCheckSpec)

/-- 'bitemporallaw06.ClockSteps', WHERE WHAT IT READS IS OF BULK AT MOST 1048576: true; the input reads as it did. -/
def clockStepsUptoRow : OpenClaim := { program := "ytfimkjponcnlmaa", sum := "3216159c3796a7c85037cf649f756802a674ec4e430f103b16765e42d6fef5a8", func := "bitemporal/bitemporallaw06.ClockSteps", spec := "clockSteps", unfollowed := true, recurses := true, apart := false, narrowed := true }
def ClockStepsUptoSaid : Prop := clockStepsUptoRow.holds Try.pinned (OpenSpec.upto clockStepsSpec)

/-- 'bitemporallaw06.ClockShown', WHERE WHAT IT READS IS OF BULK AT MOST 1048576: true; the input reads as it did. -/
def clockShownUptoRow : OpenClaim := { program := "ytfimkjponcnlmaa", sum := "3216159c3796a7c85037cf649f756802a674ec4e430f103b16765e42d6fef5a8", func := "bitemporal/bitemporallaw06.ClockShown", spec := "clockShown", unfollowed := true, recurses := true, apart := false, narrowed := true }
def ClockShownUptoSaid : Prop := clockShownUptoRow.holds Try.pinned (OpenSpec.upto clockShownSpec)

/-- 'bitemporallaw06.ClockReplay', WHERE WHAT IT READS IS OF BULK AT MOST 1048576: true; the input reads as it did. -/
def clockReplayUptoRow : OpenClaim := { program := "ytfimkjponcnlmaa", sum := "3216159c3796a7c85037cf649f756802a674ec4e430f103b16765e42d6fef5a8", func := "bitemporal/bitemporallaw06.ClockReplay", spec := "clockReplay", unfollowed := true, recurses := true, apart := false, narrowed := true }
def ClockReplayUptoSaid : Prop := clockReplayUptoRow.holds Try.pinned (OpenSpec.upto clockReplaySpec)

/-- 'bitemporallaw06.ClockOrder', WHERE WHAT IT READS IS OF BULK AT MOST 1048576: true; the input reads as it did. -/
def clockOrderUptoRow : OpenClaim := { program := "ytfimkjponcnlmaa", sum := "3216159c3796a7c85037cf649f756802a674ec4e430f103b16765e42d6fef5a8", func := "bitemporal/bitemporallaw06.ClockOrder", spec := "clockOrder", unfollowed := true, recurses := true, apart := false, narrowed := true }
def ClockOrderUptoSaid : Prop := clockOrderUptoRow.holds Try.pinned (OpenSpec.upto clockOrderSpec)

/-- 'bitemporallaw06.ClockFound', WHERE WHAT IT READS IS OF BULK AT MOST 1048576: true; the input reads as it did. -/
def clockFoundUptoRow : OpenClaim := { program := "ytfimkjponcnlmaa", sum := "3216159c3796a7c85037cf649f756802a674ec4e430f103b16765e42d6fef5a8", func := "bitemporal/bitemporallaw06.ClockFound", spec := "clockFound", unfollowed := true, recurses := true, apart := false, narrowed := true }
def ClockFoundUptoSaid : Prop := clockFoundUptoRow.holds Try.pinned (OpenSpec.upto clockFoundSpec)

end Rows
end Go.Proofs.Ytfimkjponcnlmaa
