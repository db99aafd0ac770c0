/- Values: printable texts and valid values. -/
import Derived.Test.YtimhehnmmjgeaaaGreatDoorOwn
import Derived.Deep.Light
import Derived.Deep.RegionHeld3
set_option linter.unusedSimpArgs false
set_option linter.unusedVariables false
namespace Go.Proofs.YtimhehnmmjgeaaaGreatDoor
open Go.RowKit

/-- a value: kind, integer, text -/
structure Va where
  k : Int
  i : Int
  t : ByteArray
deriving DecidableEq
def vc (v : Va) : List Value := [.int .i64 v.k, .int .i64 v.i, .string v.t]
abbrev vag (v : Va) : Value := .agg #[.int .i64 v.k, .int .i64 v.i, .string v.t]

def prL : List UInt8 → Bool
  | [] => true
  | c :: l => if (c.toNat : Int) < 32 then false else if 126 < (c.toNat : Int) then false else prL l
def prB (s : ByteArray) : Bool := prL s.data.toList

theorem drop_byte (s : ByteArray) (k : Nat) (h : k < s.size) : s.data.toList.drop k = s[k] :: s.data.toList.drop (k + 1) := by
  rw [List.drop_eq_getElem_cons (by simpa using h)]; rfl

def emB (s : ByteArray) : Bool := s.toList.isEmpty
def vvB (v : Va) : Bool :=
  if v.k = 0 then v.i == 0 && emB v.t else
  if v.k = 1 then emB v.t && (decide (-1125899906842624 ≤ v.i) && decide (v.i ≤ 1125899906842624)) else
  if v.k = 2 then v.i == 0 && (decide (v.t.size ≤ 200) && prB v.t) else
  if v.k = 3 then emB v.t && (v.i == 0 || v.i == 1) else false

end Go.Proofs.YtimhehnmmjgeaaaGreatDoor
