/-
  No cell of these rows narrows 'for every input' (looked for: loops, veiled, ifaces, maps, wideKeys, modest, calm, conditions, laid).
  DERIVED. THE GIVEN ROWS OF THIS SEAT. 7 by the template 'for every input the law returns true; each argument reads behind the call as it read before'; 0 by the template 'total and deterministic' (their statements: YtogfageapejmpaaTotals.lean).
  GIVEN WITH THE SEED: the statements are not yours to turn. If you find one false, say at which input.
  Laid BY PROGRAM, IN A SANDBOX (cutbox-rows.mjs): the forced cells as the released guide's own fill.sh prints them over the translation fd0699df68a51553… (all of the seat's roots in one cut). By AI agents, Wed Nov 11 2026. No macro, syntax, notation, axiom, sorry.
-/
import Derived.Test.YtogfageapejmpaaChecked
import GoSem.Claim
import GoSem.ClaimJoined
import GoSem.ClaimMapViews
import Derived.JoinedTies
import Derived.KernelRfl
namespace Go.Proofs.Ytogfageapejmpaa
/- THE CELL 'sum', in the pinned program and in every row, IS THE sha256 OF THE DUMP (.gsa) THAT YtogfageapejmpaaProg.lean LOADS. Nothing in Lean hashes anything: it is a label: what it is worth is what the hold of that sum in a sandbox is worth. -/
noncomputable def Try.pinned : Pinned := { name := "ytogfageapejmpaa", sum := "fd0699df68a51553e30cefbdd20fb3ed0b3e59b28f568f98c8dc1fffa2d97cef", checked := Try.checked }
namespace Rows
def none {H : Type} : Left H := { results := [], args := [] }

/-- 'bitemporallaw03.SpanOf': WHATEVER THE INPUT: true; the input reads as it did. -/
def spanOfSpec : ChangeSpec := { name := "spanOf", fn := fun _ => fun
  | [d] => { results := [.lit (.bool true)], args := [d] }
  | _ => none }
def spanOfRow : OpenClaim := { program := "ytogfageapejmpaa", sum := "fd0699df68a51553e30cefbdd20fb3ed0b3e59b28f568f98c8dc1fffa2d97cef", func := "bitemporal/bitemporallaw03.SpanOf", spec := "spanOf", unfollowed := true, recurses := true, apart := false }
def SpanOfSaid : Prop := spanOfRow.holds Try.pinned (OpenSpec.ofChange spanOfSpec)

/-- ITS FALSE NEIGHBOUR: 'it returns false'. Refute it at one input. -/
def spanOfWrong : ChangeSpec := { name := "spanOf", fn := fun _ => fun
  | [d] => { results := [.lit (.bool false)], args := [d] }
  | _ => none }
def SpanOfWrongFalsely : Prop := spanOfRow.holds Try.pinned (OpenSpec.ofChange spanOfWrong)

/-- 'bitemporallaw03.SpanSlices': WHATEVER THE INPUT: true; the input reads as it did. -/
def spanSlicesSpec : ChangeSpec := { name := "spanSlices", fn := fun _ => fun
  | [d] => { results := [.lit (.bool true)], args := [d] }
  | _ => none }
def spanSlicesRow : OpenClaim := { program := "ytogfageapejmpaa", sum := "fd0699df68a51553e30cefbdd20fb3ed0b3e59b28f568f98c8dc1fffa2d97cef", func := "bitemporal/bitemporallaw03.SpanSlices", spec := "spanSlices", unfollowed := true, recurses := true, apart := false }
def SpanSlicesSaid : Prop := spanSlicesRow.holds Try.pinned (OpenSpec.ofChange spanSlicesSpec)

/-- ITS FALSE NEIGHBOUR: 'it returns false'. Refute it at one input. -/
def spanSlicesWrong : ChangeSpec := { name := "spanSlices", fn := fun _ => fun
  | [d] => { results := [.lit (.bool false)], args := [d] }
  | _ => none }
def SpanSlicesWrongFalsely : Prop := spanSlicesRow.holds Try.pinned (OpenSpec.ofChange spanSlicesWrong)

/-- 'bitemporallaw03.SpanLengths': WHATEVER THE INPUT: true; the input reads as it did. -/
def spanLengthsSpec : ChangeSpec := { name := "spanLengths", fn := fun _ => fun
  | [d1, d2] => { results := [.lit (.bool true)], args := [d1, d2] }
  | _ => none }
def spanLengthsRow : OpenClaim := { program := "ytogfageapejmpaa", sum := "fd0699df68a51553e30cefbdd20fb3ed0b3e59b28f568f98c8dc1fffa2d97cef", func := "bitemporal/bitemporallaw03.SpanLengths", spec := "spanLengths", unfollowed := true, recurses := true, apart := false }
def SpanLengthsSaid : Prop := spanLengthsRow.holds Try.pinned (OpenSpec.ofChange spanLengthsSpec)

/-- ITS FALSE NEIGHBOUR: 'it returns false'. Refute it at one input. -/
def spanLengthsWrong : ChangeSpec := { name := "spanLengths", fn := fun _ => fun
  | [d1, d2] => { results := [.lit (.bool false)], args := [d1, d2] }
  | _ => none }
def SpanLengthsWrongFalsely : Prop := spanLengthsRow.holds Try.pinned (OpenSpec.ofChange spanLengthsWrong)

/-- 'bitemporallaw03.SpanCombines': WHATEVER THE INPUT: true; the input reads as it did. -/
def spanCombinesSpec : ChangeSpec := { name := "spanCombines", fn := fun _ => fun
  | [d1, d2] => { results := [.lit (.bool true)], args := [d1, d2] }
  | _ => none }
def spanCombinesRow : OpenClaim := { program := "ytogfageapejmpaa", sum := "fd0699df68a51553e30cefbdd20fb3ed0b3e59b28f568f98c8dc1fffa2d97cef", func := "bitemporal/bitemporallaw03.SpanCombines", spec := "spanCombines", unfollowed := true, recurses := true, apart := false }
def SpanCombinesSaid : Prop := spanCombinesRow.holds Try.pinned (OpenSpec.ofChange spanCombinesSpec)

/-- ITS FALSE NEIGHBOUR: 'it returns false'. Refute it at one input. -/
def spanCombinesWrong : ChangeSpec := { name := "spanCombines", fn := fun _ => fun
  | [d1, d2] => { results := [.lit (.bool false)], args := [d1, d2] }
  | _ => none }
def SpanCombinesWrongFalsely : Prop := spanCombinesRow.holds Try.pinned (OpenSpec.ofChange spanCombinesWrong)

/-- 'bitemporallaw03.SpanAlgebra': WHATEVER THE INPUT: true; the input reads as it did. -/
def spanAlgebraSpec : ChangeSpec := { name := "spanAlgebra", fn := fun _ => fun
  | [d1, d2, d3] => { results := [.lit (.bool true)], args := [d1, d2, d3] }
  | _ => none }
def spanAlgebraRow : OpenClaim := { program := "ytogfageapejmpaa", sum := "fd0699df68a51553e30cefbdd20fb3ed0b3e59b28f568f98c8dc1fffa2d97cef", func := "bitemporal/bitemporallaw03.SpanAlgebra", spec := "spanAlgebra", unfollowed := true, recurses := true, apart := false }
def SpanAlgebraSaid : Prop := spanAlgebraRow.holds Try.pinned (OpenSpec.ofChange spanAlgebraSpec)

/-- ITS FALSE NEIGHBOUR: 'it returns false'. Refute it at one input. -/
def spanAlgebraWrong : ChangeSpec := { name := "spanAlgebra", fn := fun _ => fun
  | [d1, d2, d3] => { results := [.lit (.bool false)], args := [d1, d2, d3] }
  | _ => none }
def SpanAlgebraWrongFalsely : Prop := spanAlgebraRow.holds Try.pinned (OpenSpec.ofChange spanAlgebraWrong)

/-- 'bitemporallaw03.SpanPoints': WHATEVER THE INPUT: true; the input reads as it did. -/
def spanPointsSpec : ChangeSpec := { name := "spanPoints", fn := fun _ => fun
  | [d1, d2, d3] => { results := [.lit (.bool true)], args := [d1, d2, d3] }
  | _ => none }
def spanPointsRow : OpenClaim := { program := "ytogfageapejmpaa", sum := "fd0699df68a51553e30cefbdd20fb3ed0b3e59b28f568f98c8dc1fffa2d97cef", func := "bitemporal/bitemporallaw03.SpanPoints", spec := "spanPoints", unfollowed := true, recurses := true, apart := false }
def SpanPointsSaid : Prop := spanPointsRow.holds Try.pinned (OpenSpec.ofChange spanPointsSpec)

/-- ITS FALSE NEIGHBOUR: 'it returns false'. Refute it at one input. -/
def spanPointsWrong : ChangeSpec := { name := "spanPoints", fn := fun _ => fun
  | [d1, d2, d3] => { results := [.lit (.bool false)], args := [d1, d2, d3] }
  | _ => none }
def SpanPointsWrongFalsely : Prop := spanPointsRow.holds Try.pinned (OpenSpec.ofChange spanPointsWrong)

/-- 'bitemporallaw03.SpanTells': WHATEVER THE INPUT: true; the input reads as it did. -/
def spanTellsSpec : ChangeSpec := { name := "spanTells", fn := fun _ => fun
  | [d1, d2] => { results := [.lit (.bool true)], args := [d1, d2] }
  | _ => none }
def spanTellsRow : OpenClaim := { program := "ytogfageapejmpaa", sum := "fd0699df68a51553e30cefbdd20fb3ed0b3e59b28f568f98c8dc1fffa2d97cef", func := "bitemporal/bitemporallaw03.SpanTells", spec := "spanTells", unfollowed := true, recurses := true, apart := false }
def SpanTellsSaid : Prop := spanTellsRow.holds Try.pinned (OpenSpec.ofChange spanTellsSpec)

/-- ITS FALSE NEIGHBOUR: 'it returns false'. Refute it at one input. -/
def spanTellsWrong : ChangeSpec := { name := "spanTells", fn := fun _ => fun
  | [d1, d2] => { results := [.lit (.bool false)], args := [d1, d2] }
  | _ => none }
def SpanTellsWrongFalsely : Prop := spanTellsRow.holds Try.pinned (OpenSpec.ofChange spanTellsWrong)

/- THE SECOND FORM. 'bulk': how many values and letters a reading holds, each counted each time it is reached (what is shared counts as often as it is met; a slice's spare places count too). A statement '..UptoSaid' is the law's where the arguments, and the package variables that the reading takes, are together of bulk at most 1048576: NARROWER than '..Said'. Prove '..Said' where nothing that the law and all that it calls make is longer than what came in: it says more and counts as full. Else prove '..UptoSaid'. A law counts once. -/
mutual
def uptoBulk {H : Type} : DataW H → Nat
  | .lit (.string bytes) => bytes.length + 1
  | .lit _ => 1
  | .nil => 1
  | .ptr d => uptoBulk d + 1
  | .slice elems spare => uptoBulkAll elems + uptoBulkAll spare + 1
  | .agg parts => uptoBulkAll parts + 1
  | .iface _ d => uptoBulk d + 1
  | .map entries => uptoBulkEntries entries + 1
  | .held _ => 1
def uptoBulkAll {H : Type} : List (DataW H) → Nat
  | [] => 0
  | d :: r => uptoBulk d + uptoBulkAll r
def uptoBulkEntries {H : Type} : List (Lit × DataW H) → Nat
  | [] => 0
  | x :: r => uptoBulkEntry x + uptoBulkEntries r
def uptoBulkEntry {H : Type} : Lit × DataW H → Nat
  | (.string bytes, d) => bytes.length + uptoBulk d + 1
  | (_, d) => uptoBulk d + 1
 end
def uptoSmall : (H : Type) → List (DataW H) → Bool := fun _ ds => decide (uptoBulkAll ds ≤ 1048576)
def OpenSpec.upto (s : _root_.Go.ChangeSpec) : _root_.Go.OpenSpec := { _root_.Go.OpenSpec.ofChange s with cond := some uptoSmall }

/-- 'bitemporallaw03.SpanOf', WHERE WHAT IT READS IS OF BULK AT MOST 1048576: true; the input reads as it did. -/
def spanOfUptoRow : OpenClaim := { program := "ytogfageapejmpaa", sum := "fd0699df68a51553e30cefbdd20fb3ed0b3e59b28f568f98c8dc1fffa2d97cef", func := "bitemporal/bitemporallaw03.SpanOf", spec := "spanOf", unfollowed := true, recurses := true, apart := false, narrowed := true }
def SpanOfUptoSaid : Prop := spanOfUptoRow.holds Try.pinned (OpenSpec.upto spanOfSpec)

/-- 'bitemporallaw03.SpanSlices', WHERE WHAT IT READS IS OF BULK AT MOST 1048576: true; the input reads as it did. -/
def spanSlicesUptoRow : OpenClaim := { program := "ytogfageapejmpaa", sum := "fd0699df68a51553e30cefbdd20fb3ed0b3e59b28f568f98c8dc1fffa2d97cef", func := "bitemporal/bitemporallaw03.SpanSlices", spec := "spanSlices", unfollowed := true, recurses := true, apart := false, narrowed := true }
def SpanSlicesUptoSaid : Prop := spanSlicesUptoRow.holds Try.pinned (OpenSpec.upto spanSlicesSpec)

/-- 'bitemporallaw03.SpanLengths', WHERE WHAT IT READS IS OF BULK AT MOST 1048576: true; the input reads as it did. -/
def spanLengthsUptoRow : OpenClaim := { program := "ytogfageapejmpaa", sum := "fd0699df68a51553e30cefbdd20fb3ed0b3e59b28f568f98c8dc1fffa2d97cef", func := "bitemporal/bitemporallaw03.SpanLengths", spec := "spanLengths", unfollowed := true, recurses := true, apart := false, narrowed := true }
def SpanLengthsUptoSaid : Prop := spanLengthsUptoRow.holds Try.pinned (OpenSpec.upto spanLengthsSpec)

/-- 'bitemporallaw03.SpanCombines', WHERE WHAT IT READS IS OF BULK AT MOST 1048576: true; the input reads as it did. -/
def spanCombinesUptoRow : OpenClaim := { program := "ytogfageapejmpaa", sum := "fd0699df68a51553e30cefbdd20fb3ed0b3e59b28f568f98c8dc1fffa2d97cef", func := "bitemporal/bitemporallaw03.SpanCombines", spec := "spanCombines", unfollowed := true, recurses := true, apart := false, narrowed := true }
def SpanCombinesUptoSaid : Prop := spanCombinesUptoRow.holds Try.pinned (OpenSpec.upto spanCombinesSpec)

/-- 'bitemporallaw03.SpanAlgebra', WHERE WHAT IT READS IS OF BULK AT MOST 1048576: true; the input reads as it did. -/
def spanAlgebraUptoRow : OpenClaim := { program := "ytogfageapejmpaa", sum := "fd0699df68a51553e30cefbdd20fb3ed0b3e59b28f568f98c8dc1fffa2d97cef", func := "bitemporal/bitemporallaw03.SpanAlgebra", spec := "spanAlgebra", unfollowed := true, recurses := true, apart := false, narrowed := true }
def SpanAlgebraUptoSaid : Prop := spanAlgebraUptoRow.holds Try.pinned (OpenSpec.upto spanAlgebraSpec)

/-- 'bitemporallaw03.SpanPoints', WHERE WHAT IT READS IS OF BULK AT MOST 1048576: true; the input reads as it did. -/
def spanPointsUptoRow : OpenClaim := { program := "ytogfageapejmpaa", sum := "fd0699df68a51553e30cefbdd20fb3ed0b3e59b28f568f98c8dc1fffa2d97cef", func := "bitemporal/bitemporallaw03.SpanPoints", spec := "spanPoints", unfollowed := true, recurses := true, apart := false, narrowed := true }
def SpanPointsUptoSaid : Prop := spanPointsUptoRow.holds Try.pinned (OpenSpec.upto spanPointsSpec)

/-- 'bitemporallaw03.SpanTells', WHERE WHAT IT READS IS OF BULK AT MOST 1048576: true; the input reads as it did. -/
def spanTellsUptoRow : OpenClaim := { program := "ytogfageapejmpaa", sum := "fd0699df68a51553e30cefbdd20fb3ed0b3e59b28f568f98c8dc1fffa2d97cef", func := "bitemporal/bitemporallaw03.SpanTells", spec := "spanTells", unfollowed := true, recurses := true, apart := false, narrowed := true }
def SpanTellsUptoSaid : Prop := spanTellsUptoRow.holds Try.pinned (OpenSpec.upto spanTellsSpec)

end Rows
end Go.Proofs.Ytogfageapejmpaa
