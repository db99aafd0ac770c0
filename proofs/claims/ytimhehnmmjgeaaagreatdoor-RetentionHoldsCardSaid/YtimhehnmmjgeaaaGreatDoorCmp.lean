/- cmp.Compare and cmp.Or at ints. -/
import Derived.Test.YtimhehnmmjgeaaaGreatDoorOwn
import Derived.Deep.Light
import Derived.Deep.RegionHeld3
set_option linter.unusedSimpArgs false
set_option linter.unusedVariables false
namespace Go.Proofs.YtimhehnmmjgeaaaGreatDoor
open Go.RowKit

def cmpI (a b : Int) : Int := if a < b then -1 else if b < a then 1 else 0
def orF : List Int → Int
  | [] => 0
  | a :: l => if a = 0 then orF l else a

theorem nan_any (a : Int) (w : World) : Calls Tryz.prog 51 #[.int .i64 a] w fun e w' => e = .returned (.bool false) ∧ w' = w := by
  go_enter Tryz.func51, Tryz.ntmps51
  go_wp2
  go_ret
  exact ⟨by simp, rfl⟩

set_option maxHeartbeats 800000 in
theorem cmpI_any (a b : Int) (w : World) : Calls Tryz.prog 35 #[.int .i64 a, .int .i64 b] w fun e w' => e = .returned (.int .i64 (cmpI a b)) ∧ w' = w := by
  go_enter Tryz.func35, Tryz.ntmps35
  go_wp2_with (go_at_call 51; (refine (nan_any _ _).mono ?_; rintro e w1 ⟨rfl, rfl⟩))
  all_goals go_ret
  all_goals refine ⟨?_, rfl⟩
  all_goals refine congrArg (fun z => Ending.returned (Value.int .i64 z)) ?_
  all_goals unfold cmpI
  all_goals (repeat' split) <;> first | rfl | omega

set_option maxHeartbeats 800000 in
theorem or_any (A : Option Addr) (l : List Int) (c : Nat) (w : World) (hR : Rd w 1 A l.length (ic l)) (hl : l.length ≤ 9223372036854775807) :
    Calls Tryz.prog 34 #[.slice A l.length c] w fun e w' => e = .returned (.int .i64 (orF l)) ∧ w' = w := by
  go_enter Tryz.func34, Tryz.ntmps34
  go_wp2
  go_loopw [8, 5] (fun i s5 wr => ∃ j : Nat, j ≤ l.length ∧ i = .int .i64 j ∧ wr = w ∧ Hid (orF l = orF (l.drop j))) (fun i _ _ => l.length - (intOf i).toNat)
  case atStart => exact ⟨0, Nat.zero_le _, rfl, rfl, Lib.hid rfl⟩
  case round =>
    obtain ⟨j, hj, rfl, rfl, HC⟩ := hrel
    by_cases hlt : j < l.length
    · obtain ⟨b, o, rfl, hb, hc1⟩ := hR.int hlt
      have HD : Hid (orF l = orF (l[j] :: l.drop (j + 1))) := Lib.hid (by rw [HC.out, List.drop_eq_getElem_cons hlt])
      clear HC
      generalize l[j] = z at hc1 HD
      by_cases hz : z = 0
      · have H0 : Hid (orF l = orF (l.drop (j + 1))) := Lib.hid (by rw [HD.out, orF, if_pos hz])
        have hzb : (z != 0) = false := by simp [hz]
        clear HD
        go_wp2
        go_roundw
        case rel => go_light; exact ⟨j + 1, by omega, by go_num, by first | rfl | trivial, H0⟩
        case measure => go_light; simp [intOf]; omega
      · have H0 : Hid (orF l = z) := Lib.hid (by rw [HD.out, orF, if_neg hz])
        have hzb : (z != 0) = true := by simp [hz]
        clear HD
        go_wp2
        go_ret
        exact ⟨by rw [H0.out]; rfl, rfl⟩
    · have H0 : Hid (orF l = 0) := Lib.hid (by rw [HC.out, List.drop_eq_nil_of_le (Nat.le_of_not_lt hlt)]; rfl)
      clear HC
      go_wp2
      go_ret
      exact ⟨by rw [H0.out]; rfl, rfl⟩

end Go.Proofs.YtimhehnmmjgeaaaGreatDoor
