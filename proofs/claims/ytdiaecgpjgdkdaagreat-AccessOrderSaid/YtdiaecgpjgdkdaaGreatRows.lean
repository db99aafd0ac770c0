/-
  NARROWER THAN 'FOR EVERY INPUT', by the rows' own cells (each row's printed sentence says how): AccessFetches: loops · AccessOrder: loops.
  DERIVED. THE GIVEN ROWS OF THIS SEAT. 2 by the template 'for every input the law returns true; each argument reads behind the call as it read before'; 0 by the template 'total and deterministic' (their statements: YtdiaecgpjgdkdaaGreatTotals.lean).
  GIVEN WITH THE SEED: the statements are not yours to turn. If you find one false, say at which input.
  Laid BY PROGRAM, IN A SANDBOX (cutbox-rows.mjs): the forced cells as the released guide's own fill.sh prints them over the translation d90b3585be294d46… (all of the seat's roots in one cut). By AI agents, Wed Nov 11 2026. No macro, syntax, notation, axiom, sorry.
-/
import Derived.Test.YtdiaecgpjgdkdaaGreatChecked
import GoSem.Claim
import GoSem.ClaimJoined
import GoSem.ClaimMapViews
import Derived.JoinedTies
import Derived.KernelRfl
namespace Go.Proofs.YtdiaecgpjgdkdaaGreat
/- THE CELL 'sum', in the pinned program and in every row, IS THE sha256 OF THE DUMP (.gsa) THAT YtdiaecgpjgdkdaaGreatProg.lean LOADS. Nothing in Lean hashes anything: it is a label: what it is worth is what the hold of that sum in a sandbox is worth. -/
noncomputable def Tryz.pinned : Pinned := { name := "ytdiaecgpjgdkdaagreat", sum := "d90b3585be294d463465d299ed8072d6e5518554b1b5ef373031e0d822cb2884", checked := Tryz.checked }
namespace Rows
def none {H : Type} : Left H := { results := [], args := [] }

/-- 'bitemporallaw49.AccessFetches': WHATEVER THE INPUT: true; the input reads as it did. -/
def accessFetchesSpec : ChangeSpec := { name := "accessFetches", fn := fun _ => fun
  | [d1, d2, d3] => { results := [.lit (.bool true)], args := [d1, d2, d3] }
  | _ => none }
def accessFetchesRow : OpenClaim := { program := "ytdiaecgpjgdkdaagreat", sum := "d90b3585be294d463465d299ed8072d6e5518554b1b5ef373031e0d822cb2884", func := "bitemporal/bitemporallaw49.AccessFetches", spec := "accessFetches", inPlace := ["internal/bytealg.abigen_runtime_cmpstring", "slices.overlaps[bitemporal/btree.pair]", "slices.overlaps[*bitemporal/btree.node]"], unfollowed := true, recurses := true, loops := true, apart := false }
def AccessFetchesSaid : Prop := accessFetchesRow.holds Tryz.pinned (OpenSpec.ofChange accessFetchesSpec)

/-- ITS FALSE NEIGHBOUR: 'it returns false'. Refute it at one input. -/
def accessFetchesWrong : ChangeSpec := { name := "accessFetches", fn := fun _ => fun
  | [d1, d2, d3] => { results := [.lit (.bool false)], args := [d1, d2, d3] }
  | _ => none }
def AccessFetchesWrongFalsely : Prop := accessFetchesRow.holds Tryz.pinned (OpenSpec.ofChange accessFetchesWrong)

/-- 'bitemporallaw49.AccessOrder': WHATEVER THE INPUT: true; the input reads as it did. -/
def accessOrderSpec : ChangeSpec := { name := "accessOrder", fn := fun _ => fun
  | [d1, d2, d3] => { results := [.lit (.bool true)], args := [d1, d2, d3] }
  | _ => none }
def accessOrderRow : OpenClaim := { program := "ytdiaecgpjgdkdaagreat", sum := "d90b3585be294d463465d299ed8072d6e5518554b1b5ef373031e0d822cb2884", func := "bitemporal/bitemporallaw49.AccessOrder", spec := "accessOrder", inPlace := ["internal/bytealg.abigen_runtime_cmpstring", "slices.overlaps[bitemporal/btree.pair]", "slices.overlaps[*bitemporal/btree.node]"], unfollowed := true, recurses := true, loops := true, apart := false }
def AccessOrderSaid : Prop := accessOrderRow.holds Tryz.pinned (OpenSpec.ofChange accessOrderSpec)

/-- ITS FALSE NEIGHBOUR: 'it returns false'. Refute it at one input. -/
def accessOrderWrong : ChangeSpec := { name := "accessOrder", fn := fun _ => fun
  | [d1, d2, d3] => { results := [.lit (.bool false)], args := [d1, d2, d3] }
  | _ => none }
def AccessOrderWrongFalsely : Prop := accessOrderRow.holds Tryz.pinned (OpenSpec.ofChange accessOrderWrong)

/- THE SECOND FORM. 'bulk': how many values and letters a reading holds, each counted each time it is reached (what is shared counts as often as it is met; a slice's spare places count too). A statement '..UptoSaid' is the law's where the arguments, and the package variables that the reading takes, are together of bulk at most 1048576: NARROWER than '..Said'. Prove '..Said' where nothing that the law and all that it calls make is longer than what came in: it says more and counts as full. Else prove '..UptoSaid'. A law counts once. -/
mutual
def uptoBulk {H : Type} : DataW H → Nat
  | .lit (.string bytes) => bytes.length + 1
  | .lit _ => 1
  | .nil => 1
  | .ptr d => uptoBulk d + 1
  | .slice elems spare => uptoBulkAll elems + uptoBulkAll spare + 1
  | .agg parts => uptoBulkAll parts + 1
  | .iface _ d => uptoBulk d + 1
  | .map entries => uptoBulkEntries entries + 1
  | .held _ => 1
def uptoBulkAll {H : Type} : List (DataW H) → Nat
  | [] => 0
  | d :: r => uptoBulk d + uptoBulkAll r
def uptoBulkEntries {H : Type} : List (Lit × DataW H) → Nat
  | [] => 0
  | x :: r => uptoBulkEntry x + uptoBulkEntries r
def uptoBulkEntry {H : Type} : Lit × DataW H → Nat
  | (.string bytes, d) => bytes.length + uptoBulk d + 1
  | (_, d) => uptoBulk d + 1
 end
def uptoSmall : (H : Type) → List (DataW H) → Bool := fun _ ds => decide (uptoBulkAll ds ≤ 1048576)
def OpenSpec.upto (s : _root_.Go.ChangeSpec) : _root_.Go.OpenSpec := { _root_.Go.OpenSpec.ofChange s with cond := some uptoSmall }

/-- 'bitemporallaw49.AccessFetches', WHERE WHAT IT READS IS OF BULK AT MOST 1048576: true; the input reads as it did. -/
def accessFetchesUptoRow : OpenClaim := { program := "ytdiaecgpjgdkdaagreat", sum := "d90b3585be294d463465d299ed8072d6e5518554b1b5ef373031e0d822cb2884", func := "bitemporal/bitemporallaw49.AccessFetches", spec := "accessFetches", inPlace := ["internal/bytealg.abigen_runtime_cmpstring", "slices.overlaps[bitemporal/btree.pair]", "slices.overlaps[*bitemporal/btree.node]"], unfollowed := true, recurses := true, loops := true, apart := false, narrowed := true }
def AccessFetchesUptoSaid : Prop := accessFetchesUptoRow.holds Tryz.pinned (OpenSpec.upto accessFetchesSpec)

/-- 'bitemporallaw49.AccessOrder', WHERE WHAT IT READS IS OF BULK AT MOST 1048576: true; the input reads as it did. -/
def accessOrderUptoRow : OpenClaim := { program := "ytdiaecgpjgdkdaagreat", sum := "d90b3585be294d463465d299ed8072d6e5518554b1b5ef373031e0d822cb2884", func := "bitemporal/bitemporallaw49.AccessOrder", spec := "accessOrder", inPlace := ["internal/bytealg.abigen_runtime_cmpstring", "slices.overlaps[bitemporal/btree.pair]", "slices.overlaps[*bitemporal/btree.node]"], unfollowed := true, recurses := true, loops := true, apart := false, narrowed := true }
def AccessOrderUptoSaid : Prop := accessOrderUptoRow.holds Tryz.pinned (OpenSpec.upto accessOrderSpec)

end Rows
end Go.Proofs.YtdiaecgpjgdkdaaGreat
