/- The contracts of the reference's may and Shown. -/
import Derived.Test.YtfimkjponcnlmaaClkX
set_option linter.unusedSimpArgs false
set_option linter.unusedVariables false
namespace Go.Proofs.Ytfimkjponcnlmaa
open Go.RowKit

def may2 (a b wall : Int) : Bool := if a ≤ b then decide (a ≤ wall) && decide (wall ≤ b) else decide (a ≤ wall) || decide (wall ≤ b)
def mayR (l : List (Int × Int)) (k : Nat) (wall : Int) : Bool :=
  match l.drop k with
  | [] => false
  | [a] => decide (a.2 ≤ wall)
  | a :: b :: _ => may2 a.2 b.2 wall

set_option maxHeartbeats 800000 in
theorem may_any (A : Option Addr) (c : Nat) (l : List (Int × Int)) (k : Nat) (wall : Int) (w : World) (hr : Rd w 2 A l.length (pc l)) (hk : k < l.length) (hl : l.length ≤ 9223372036854775807) :
    Calls Try.prog 34 #[.slice A l.length c, .int .i64 k, .int .i64 wall] w fun e w' => e = .returned (.bool (mayR l k wall)) ∧ w = w' := by
  obtain ⟨b, o, rfl, hb, hc1, hc2⟩ := hr.pair rfl hk
  by_cases hk1 : k + 1 < l.length
  · obtain ⟨b', o', he, hb', hd1, hd2⟩ := hr.pair rfl hk1
    simp only [Option.some.injEq, Addr.mk.injEq, and_true] at he
    obtain ⟨rfl, rfl⟩ := he
    have HM : Hid (mayR l k wall = may2 l[k].2 l[k + 1].2 wall) := Lib.hid (by rw [mayR, List.drop_eq_getElem_cons hk, List.drop_eq_getElem_cons hk1])
    have hb1 : (((k : Int) + 1) == (l.length : Int)) = false := by simp; omega
    generalize l[k] = x at hc1 hc2 HM
    generalize l[k + 1] = y at hd1 hd2 HM
    go_enter Try.func34, Try.ntmps34
    go_wp2
    all_goals go_ret
    all_goals refine ⟨?_, rfl⟩
    all_goals rw [HM.out]
    all_goals clear HM hc1 hc2 hd1 hd2
    all_goals simp_all [may2]
    all_goals omega
  · have HM : Hid (mayR l k wall = decide (l[k].2 ≤ wall)) := Lib.hid (by rw [mayR, List.drop_eq_getElem_cons hk, List.drop_eq_nil_of_le (by omega)])
    have hb1 : (((k : Int) + 1) == (l.length : Int)) = true := by simp; omega
    generalize l[k] = x at hc1 hc2 HM
    go_enter Try.func34, Try.ntmps34
    go_wp2
    all_goals go_ret
    all_goals exact ⟨by rw [HM.out]; rfl, rfl⟩

def addR (out : List (Int × Int)) (p : Int × Int) : List (Int × Int) :=
  match out.getLast? with
  | none => [p]
  | some q => if q.2 = p.1 then out.dropLast ++ [(q.1, p.2)] else out ++ [p]
def rsT (wall : Int) : List (Int × Int) → List (Int × Int) → List (Int × Int)
  | out, [] => out
  | out, [a] => if a.2 ≤ wall then addR out (a.1, 1099511627776) else out
  | out, a :: b :: r => rsT wall (if may2 a.2 b.2 wall then addR out (a.1, b.1) else out) (b :: r)
def rshown (l : List (Int × Int)) (wall : Int) : List (Int × Int) := if chk 0 l = 0 ∧ instB wall = true then rsT wall [] ((0, 0) :: l) else []
end Go.Proofs.Ytfimkjponcnlmaa
