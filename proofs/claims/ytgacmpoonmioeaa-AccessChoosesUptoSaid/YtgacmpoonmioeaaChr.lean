/- The reference of access: System. -/
import Derived.Test.YtgacmpoonmioeaaVpk
import Derived.Test.YtgacmpoonmioeaaCho
set_option linter.unusedSimpArgs false
set_option linter.unusedVariables false
namespace Go.Proofs.Ytgacmpoonmioeaa
open Go.RowKit


set_option maxHeartbeats 1600000 in
theorem rsystem_any (k f t : Int) (w : World) (hf0 : -9223372036854775808 ≤ f) (hf : f ≤ 1099511627776) (ht0 : -9223372036854775808 ≤ t) (ht : t ≤ 1099511627776) :
    Calls Try.prog 24 #[.agg #[.int .i64 k, .int .i64 f, .int .i64 t]] w fun e w' => e = .returned (pr (sysF k f t)) ∧ Ext w w' := by
  go_enter Try.func24, Try.ntmps24
  go_wp2
  all_goals refine bodyPost_ret (v := pr (sysF k f t)) ?_ rfl ⟨rfl, by repeat (first | exact Ext.refl' _ | assumption | apply Ext.ex' | apply Ext.al | apply Ext.drN | apply Ext.dr)⟩
  all_goals simp [results, Try.results24, go_sem, ↓IntWalk.iteOmega]
  all_goals simp_all [sysF]
def eqR : Option Cd → Value
  | none => .tuple #[vag nullV, .bool false]
  | some c => .tuple #[vag c.v, .bool true]
set_option maxHeartbeats 1600000 in
theorem requalC_any (A : Option Addr) (c : Nat) (l : List Cd) (k : Int) (w : World) (hR : Rd w 5 A l.length (cdc l)) (hl : l.length ≤ 9223372036854775807) :
    Calls Try.prog 23 #[.slice A l.length c, .int .i64 k] w fun e w' => e = .returned (eqR (l.find? (isEq k))) ∧ Ext w w' := by
  go_enter Try.func23, Try.ntmps23
  go_wp2
  go_loop [6] (fun i => ∃ j : Nat, j ≤ l.length ∧ i = .int .i64 j ∧ Hid (l.find? (isEq k) = (l.drop j).find? (isEq k))) (fun i => l.length - (intOf i).toNat)
  case atStart => exact ⟨0, Nat.zero_le _, rfl, Lib.hid rfl⟩
  case round =>
    obtain ⟨j, hj, rfl, HC⟩ := hrel
    by_cases hlt : j < l.length
    · obtain ⟨b, o, rfl, hb, c0, c1, c2, c3, c4⟩ := hR.cond rfl hlt
      have HD : Hid (l.find? (isEq k) = (l[j] :: l.drop (j + 1)).find? (isEq k)) := Lib.hid (by rw [HC.out, List.drop_eq_getElem_cons hlt])
      clear HC
      generalize l[j] = cd at c0 c1 c2 c3 c4 HD
      by_cases q1 : cd.op = 7
      · by_cases q2 : cd.col = k
        · have H0 : Hid (l.find? (isEq k) = some cd) := Lib.hid (by rw [HD.out, List.find?_cons, show isEq k cd = true from by simp [isEq, q1, q2]])
          clear HD
          go_wp2
          refine bodyPost_ret (v := eqR (some cd)) ?_ rfl ⟨by rw [H0.out], by repeat (first | exact Ext.refl' _ | assumption | apply Ext.ex' | apply Ext.al | apply Ext.drN | apply Ext.dr)⟩
          simp [results, Try.results23, go_sem, eqR]
        · have H0 : Hid (l.find? (isEq k) = (l.drop (j + 1)).find? (isEq k)) := Lib.hid (by rw [HD.out, List.find?_cons, show isEq k cd = false from by simp [isEq, q2]])
          clear HD
          go_wp2
          go_round
          case rel => exact ⟨j + 1, by omega, by go_num, H0⟩
          case measure => simp [intOf]; omega
      · have H0 : Hid (l.find? (isEq k) = (l.drop (j + 1)).find? (isEq k)) := Lib.hid (by rw [HD.out, List.find?_cons, show isEq k cd = false from by simp [isEq, q1]])
        clear HD
        go_wp2
        go_round
        case rel => exact ⟨j + 1, by omega, by go_num, H0⟩
        case measure => simp [intOf]; omega
    · have H0 : Hid (l.find? (isEq k) = none) := Lib.hid (by rw [HC.out, List.drop_eq_nil_of_le (Nat.le_of_not_lt hlt)]; rfl)
      clear HC
      go_wp2
      refine bodyPost_ret (v := eqR none) ?_ rfl ⟨by rw [H0.out], by repeat (first | exact Ext.refl' _ | assumption | apply Ext.ex' | apply Ext.al | apply Ext.drN | apply Ext.dr)⟩
      simp [results, Try.results23, go_sem, eqR, nullV]

end Go.Proofs.Ytgacmpoonmioeaa
