/- The contracts of the reference of chapter 5: Of, Union, Intersect, Subtract, Valid. -/
import Derived.Test.YtimhehnmmjgeaaaGreatDoorRgC
set_option linter.unusedSimpArgs false
set_option linter.unusedVariables false
namespace Go.Proofs.YtimhehnmmjgeaaaGreatDoor
open Go.RowKit


theorem regF_length (k : Bool → Bool → Bool) (a b : List Rct) : True := trivial

end Go.Proofs.YtimhehnmmjgeaaaGreatDoor
