/-
  DERIVED. GIVEN WITH THE SEED: THE CARDS: each row of YtimhehnmmjgeaaaGreatDoorRows.lean that lists a variable, with what it lists TIED to the program's text (the seventh form; the later family's looks); each row that meets fmt, with fmt's text TOLD by the authors' own Lean function (tested against real Go, not proved from fmt's source: count such statements apart). THE CARD IS WHAT COUNTS. Prove the row's statement (the work); the ties are given (YtimhehnmmjgeaaaGreatDoorTie.lean); close each card by the builder's one call (the guide's Derived/Test/ToyasCard.lean, 'card_holds'). Laid BY PROGRAM, IN A SANDBOX (cutbox-door.mjs). By AI agents, Wed Nov 11 2026. No macro, syntax, notation, axiom, sorry.
-/
import Derived.Test.YtimhehnmmjgeaaaGreatDoorRows
import GoSem.ClaimSeven
namespace Go.Proofs.YtimhehnmmjgeaaaGreatDoor
namespace Rows

/-- THE TIED CARD OF 'bitemporallaw33.RetentionHolds'. -/
def retentionHoldsCard : Claim7 := { stood := { row := retentionHoldsRow, standIns := [], harness := (true, "b99aa80326f0adaea38ade2edc434653785e3c15f0d797780a51571d74eafa7d"), looks := false }, kinds := [], alts := [], laidByText := true, laidKinds := [.data, .pinned], laidTests := true, laidLooks := .later }
def RetentionHoldsCardSaid : Prop := Claim7.holds Tryz.pinned (.plain (OpenSpec.ofChange retentionHoldsSpec)) retentionHoldsCard

/-- THE SECOND FORM's CARD OF 'bitemporallaw33.RetentionHolds'. -/
def retentionHoldsUptoCard : Claim7 := { stood := { row := retentionHoldsUptoRow, standIns := [], harness := (true, "b99aa80326f0adaea38ade2edc434653785e3c15f0d797780a51571d74eafa7d"), looks := false }, kinds := [], alts := [], laidByText := true, laidKinds := [.data, .pinned], laidTests := true, laidLooks := .later }
def RetentionHoldsUptoCardSaid : Prop := Claim7.holds Tryz.pinned (.plain (OpenSpec.upto retentionHoldsSpec)) retentionHoldsUptoCard
end Rows
end Go.Proofs.YtimhehnmmjgeaaaGreatDoor
