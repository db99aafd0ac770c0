/- Values: printable texts and valid values. -/
import Derived.Test.YtahmkinppighkaaOwn
import Derived.Deep.Light
import Derived.Deep.RegionHeld3
set_option linter.unusedSimpArgs false
set_option linter.unusedVariables false
namespace Go.Proofs.Ytahmkinppighkaa
open Go.RowKit

/-- a value: kind, integer, text -/
structure Va where
  k : Int
  i : Int
  t : ByteArray
deriving DecidableEq
def vc (v : Va) : List Value := [.int .i64 v.k, .int .i64 v.i, .string v.t]
abbrev vag (v : Va) : Value := .agg #[.int .i64 v.k, .int .i64 v.i, .string v.t]

def prL : List UInt8 → Bool
  | [] => true
  | c :: l => if (c.toNat : Int) < 32 then false else if 126 < (c.toNat : Int) then false else prL l
def prB (s : ByteArray) : Bool := prL s.data.toList

theorem drop_byte (s : ByteArray) (k : Nat) (h : k < s.size) : s.data.toList.drop k = s[k] :: s.data.toList.drop (k + 1) := by
  rw [List.drop_eq_getElem_cons (by simpa using h)]; rfl

set_option maxHeartbeats 800000 in
theorem printable_any (s : ByteArray) (w : World) (hs : s.size ≤ 9223372036854775807) :
    Calls Try.prog 75 #[.string s] w fun e w' => e = .returned (.bool (prB s)) ∧ Ext w w' := by
  go_enter Try.func75, Try.ntmps75
  go_wp2
  go_loop [6] (fun i => ∃ k : Nat, k ≤ s.size ∧ i = .int .i64 k ∧ Hid (prB s = prL (s.data.toList.drop k))) (fun i => s.size - (intOf i).toNat)
  case atStart => exact ⟨0, Nat.zero_le _, rfl, Lib.hid rfl⟩
  case round =>
    obtain ⟨k, hk, rfl, HC⟩ := hrel
    by_cases hlt : k < s.size
    · have HD : Hid (prB s = prL (s[k] :: s.data.toList.drop (k + 1))) := Lib.hid (by rw [HC.out, drop_byte s k hlt])
      clear HC
      rcases (show ((s[k].toNat : Int) < 32) ∨ (¬ (s[k].toNat : Int) < 32 ∧ 126 < (s[k].toNat : Int)) ∨ (¬ (s[k].toNat : Int) < 32 ∧ ¬ 126 < (s[k].toNat : Int)) from by omega) with h1 | ⟨h1, h2⟩ | ⟨h1, h2⟩
      · have H0 : Hid (prB s = false) := Lib.hid (by rw [HD.out, prL, if_pos h1])
        clear HD
        go_wp2
        go_ret
        exact ⟨by rw [H0.out]; rfl, Ext.refl' _⟩
      · have H0 : Hid (prB s = false) := Lib.hid (by rw [HD.out, prL, if_neg h1, if_pos h2])
        clear HD
        go_wp2
        go_ret
        exact ⟨by rw [H0.out]; rfl, Ext.refl' _⟩
      · have H0 : Hid (prB s = prL (s.data.toList.drop (k + 1))) := Lib.hid (by rw [HD.out, prL, if_neg h1, if_neg h2])
        clear HD
        go_wp2
        go_round
        case rel => exact ⟨k + 1, by omega, by go_num, H0⟩
        case measure => simp [intOf]; omega
    · have H0 : Hid (prB s = true) := Lib.hid (by rw [HC.out, List.drop_eq_nil_of_le (by simpa using Nat.le_of_not_lt hlt)]; rfl)
      clear HC
      go_wp2
      go_ret
      exact ⟨by rw [H0.out]; rfl, Ext.refl' _⟩

def emB (s : ByteArray) : Bool := s.toList.isEmpty
def vvB (v : Va) : Bool :=
  if v.k = 0 then v.i == 0 && emB v.t else
  if v.k = 1 then emB v.t && (decide (-1125899906842624 ≤ v.i) && decide (v.i ≤ 1125899906842624)) else
  if v.k = 2 then v.i == 0 && (decide (v.t.size ≤ 200) && prB v.t) else
  if v.k = 3 then emB v.t && (v.i == 0 || v.i == 1) else false

set_option maxHeartbeats 1600000 in
theorem vvalid_any (v : Va) (w : World) (hs : v.t.size ≤ 9223372036854775807) :
    Calls Try.prog 57 #[vag v] w fun e w' => e = .returned (.bool (vvB v)) ∧ Ext w w' := by
  go_enter Try.func57, Try.ntmps57
  go_wp2_with (go_at_call 75; (refine (printable_any _ _ hs).mono ?_; rintro e w1 ⟨rfl, hb1⟩; obtain ⟨x1, rfl⟩ := hb1.get; clear hb1))
  all_goals go_ret
  all_goals refine ⟨?_, by repeat (first | exact Ext.refl' _ | apply Ext.ex' | apply Ext.al)⟩
  all_goals simp_all [vvB, emB]
  all_goals omega
end Go.Proofs.Ytahmkinppighkaa
