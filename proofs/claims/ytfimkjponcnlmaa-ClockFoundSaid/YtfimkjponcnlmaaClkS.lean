/- The contracts of Steps, of package clock and of the reference. -/
import Derived.Test.YtfimkjponcnlmaaClkM
import Derived.Test.YtfimkjponcnlmaaOwn
set_option linter.unusedSimpArgs false
set_option linter.unusedVariables false
namespace Go.Proofs.Ytfimkjponcnlmaa
open Go.RowKit

def stepsF (prev i : Int) : List (Int × Int) → List Int
  | [] => []
  | x :: r => if x.2 < prev then i :: stepsF x.2 (i + 1) r else stepsF x.2 (i + 1) r
def steps (l : List (Int × Int)) : List Int := match l with | [] => [] | x :: r => stepsF x.2 1 r
theorem steps_length (r : List (Int × Int)) : ∀ prev i, (stepsF prev i r).length ≤ r.length := by
  induction r with
  | nil => intro prev i; simp [stepsF]
  | cons x r ih => intro prev i; have := ih x.2 (i + 1); simp only [stepsF]; split <;> simp <;> omega
theorem steps_le (l : List (Int × Int)) : (steps l).length ≤ l.length := by
  cases l with
  | nil => simp [steps]
  | cons x r => have := steps_length r x.2 1; simp [steps]; omega
def prevAt (l : List (Int × Int)) (k : Nat) : Int := (l[k - 1]?.map (·.2)).getD 0
theorem elInt : El Try.prog 38 3 (.int .i64 0) 1 8 := ⟨Try.underlying38, info_parts (by kernel_rfl), rfl, by decide⟩
theorem elStamp : El Try.prog 30 34 (.agg #[.int .i64 0, .int .i64 0]) 2 16 := ⟨Try.underlying30, info_parts (by kernel_rfl), rfl, by decide⟩
theorem elPeriod : El Try.prog 42 49 (.agg #[.int .i64 0, .int .i64 0]) 2 16 := ⟨Try.underlying42, info_parts (by kernel_rfl), rfl, by decide⟩


set_option maxHeartbeats 800000 in
theorem csteps_any (A : Option Addr) (c : Nat) (l : List (Int × Int)) (w : World) (hr : Rd w 2 A l.length (pc l)) (hl : l.length * 16 ≤ 140737488351232) :
    Calls Try.prog 20 #[.slice A l.length c] w fun e w' => ∃ v, e = .returned v ∧ Ext w w' ∧ w'.ownsRow w.heap.size 3 1 v (steps l).length (ic (steps l)) := by
  go_enter Try.func20, Try.ntmps20
  go_wp2
  go_loopw [3, 4] (fun out i wr => ∃ (k : Nat) (acc : List Int) (x : Add), 1 ≤ k ∧ k ≤ l.length + 1 ∧ acc.length ≤ k ∧ i = .int .i64 k ∧ Hid (steps l = acc ++ stepsF (prevAt l k) k (l.drop k)) ∧ wr = ext w x ∧ Own w x 3 1 out acc.length (ic acc)) (fun _ i _ => l.length + 1 - (intOf i).toNat)
  case atStart =>
    obtain ⟨x, hx⟩ := (Ext.refl' w).get
    refine ⟨1, [], x, by omega, by omega, by simp, rfl, Lib.hid ?_, hx, own_nil _ _ _ _⟩
    cases l <;> simp [steps, stepsF, prevAt]
  case round =>
    obtain ⟨k, acc, x, hk1, hk, hal, rfl, HC, rfl, hown⟩ := hrel
    by_cases hlt : k < l.length
    · obtain ⟨b, o, rfl, hb, hc1, hc2⟩ := hr.pair rfl hlt
      obtain ⟨b', o', he, hb', hd1, hd2⟩ := hr.pair rfl (show k - 1 < l.length by omega)
      simp only [Option.some.injEq, Addr.mk.injEq, and_true] at he
      obtain ⟨rfl, rfl⟩ := he
      have hp : prevAt l k = l[k - 1].2 := by unfold prevAt; rw [List.getElem?_eq_getElem (by omega)]; rfl
      have hp1 : prevAt l (k + 1) = l[k].2 := by unfold prevAt; rw [Nat.add_sub_cancel, List.getElem?_eq_getElem hlt]; rfl
      have HD : Hid (steps l = acc ++ (if l[k].2 < l[k - 1].2 then (k : Int) :: stepsF (prevAt l (k + 1)) (k + 1 : Nat) (l.drop (k + 1)) else stepsF (prevAt l (k + 1)) (k + 1 : Nat) (l.drop (k + 1)))) := Lib.hid (by
        rw [HC.out, List.drop_eq_getElem_cons hlt, stepsF, hp, hp1]; rfl)
      clear hp hp1 HC hc1 hd1
      generalize l[k - 1] = z at hd2 HD
      generalize l[k] = y at hc2 HD
      go_wp2
      go_quiet (fail)
      by_cases hyz : y.2 < z.2
      · go_wp2_with (at_builtin; refine wpList_app _ rfl (.tmp 23) (.tmp 25) rfl elInt w (by repeat (first | exact Ext.refl' _ | assumption | apply Ext.ex' | apply Ext.al | apply Ext.drN | apply Ext.dr)) _ _ _ rfl (World.ownsRow.alloc (by exact hown) _) _ 1 1 [.int .i64 k] rfl (Rd.lit _ _ _ 1 1 rfl (by simp [size_ext])) (oneCell_ic [(k : Int)]) (by unfold maxLen; omega) (by omega) ?_; intro v' x' hown' _)
        go_roundw
        case rel => exact ⟨k + 1, acc ++ [(k : Int)], x', by omega, by omega, by simp; omega, by go_num, Lib.hid (by rw [HD.out, if_pos hyz]; simp), rfl, by simpa [ic] using hown'⟩
        case measure => simp [intOf]; omega
      · go_wp2
        go_roundw
        case rel =>
          obtain ⟨x', hx'⟩ := (show Ext w ((ext w x).drewN nq) from by repeat (first | exact Ext.refl' _ | assumption | apply Ext.ex' | apply Ext.al | apply Ext.drN | apply Ext.dr)).get
          refine ⟨k + 1, acc, x', by omega, by omega, by omega, by go_num, Lib.hid (by rw [HD.out, if_neg hyz]), hx', ?_⟩
          unfold Own; rw [← hx']; exact hown
        case measure => simp [intOf]; omega
    · have H0 : Hid (steps l = acc) := Lib.hid (by rw [HC.out, List.drop_eq_nil_of_le (Nat.le_of_not_lt hlt)]; simp [stepsF])
      clear HC
      go_wp2
      go_ret
      exact ⟨_, rfl, Ext.ex _ _, by rw [H0.out]; exact hown⟩


set_option maxHeartbeats 800000 in
theorem rsteps_any (A : Option Addr) (c : Nat) (l : List (Int × Int)) (w : World) (hr : Rd w 2 A l.length (pc l)) (hl : l.length * 16 ≤ 140737488351232) :
    Calls Try.prog 21 #[.slice A l.length c] w fun e w' => ∃ v, e = .returned v ∧ Ext w w' ∧ w'.ownsRow w.heap.size 3 1 v (steps l).length (ic (steps l)) := by
  go_enter Try.func21, Try.ntmps21
  go_wp2
  go_loopw [3, 4] (fun out i wr => ∃ (k : Nat) (acc : List Int) (x : Add), 1 ≤ k ∧ k ≤ l.length + 1 ∧ acc.length ≤ k ∧ i = .int .i64 k ∧ Hid (steps l = acc ++ stepsF (prevAt l k) k (l.drop k)) ∧ wr = ext w x ∧ Own w x 3 1 out acc.length (ic acc)) (fun _ i _ => l.length + 1 - (intOf i).toNat)
  case atStart =>
    obtain ⟨x, hx⟩ := (Ext.refl' w).get
    refine ⟨1, [], x, by omega, by omega, by simp, rfl, Lib.hid ?_, hx, own_nil _ _ _ _⟩
    cases l <;> simp [steps, stepsF, prevAt]
  case round =>
    obtain ⟨k, acc, x, hk1, hk, hal, rfl, HC, rfl, hown⟩ := hrel
    by_cases hlt : k < l.length
    · obtain ⟨b, o, rfl, hb, hc1, hc2⟩ := hr.pair rfl hlt
      obtain ⟨b', o', he, hb', hd1, hd2⟩ := hr.pair rfl (show k - 1 < l.length by omega)
      simp only [Option.some.injEq, Addr.mk.injEq, and_true] at he
      obtain ⟨rfl, rfl⟩ := he
      have hp : prevAt l k = l[k - 1].2 := by unfold prevAt; rw [List.getElem?_eq_getElem (by omega)]; rfl
      have hp1 : prevAt l (k + 1) = l[k].2 := by unfold prevAt; rw [Nat.add_sub_cancel, List.getElem?_eq_getElem hlt]; rfl
      have HD : Hid (steps l = acc ++ (if l[k].2 < l[k - 1].2 then (k : Int) :: stepsF (prevAt l (k + 1)) (k + 1 : Nat) (l.drop (k + 1)) else stepsF (prevAt l (k + 1)) (k + 1 : Nat) (l.drop (k + 1)))) := Lib.hid (by
        rw [HC.out, List.drop_eq_getElem_cons hlt, stepsF, hp, hp1]; rfl)
      clear hp hp1 HC hc1 hd1
      generalize l[k - 1] = z at hd2 HD
      generalize l[k] = y at hc2 HD
      go_wp2
      go_quiet (fail)
      by_cases hyz : y.2 < z.2
      · go_wp2_with (at_builtin; refine wpList_app _ rfl (.tmp 23) (.tmp 25) rfl elInt w (by repeat (first | exact Ext.refl' _ | assumption | apply Ext.ex' | apply Ext.al | apply Ext.drN | apply Ext.dr)) _ _ _ rfl (World.ownsRow.alloc (by exact hown) _) _ 1 1 [.int .i64 k] rfl (Rd.lit _ _ _ 1 1 rfl (by simp [size_ext])) (oneCell_ic [(k : Int)]) (by unfold maxLen; omega) (by omega) ?_; intro v' x' hown' _)
        go_roundw
        case rel => exact ⟨k + 1, acc ++ [(k : Int)], x', by omega, by omega, by simp; omega, by go_num, Lib.hid (by rw [HD.out, if_pos hyz]; simp), rfl, by simpa [ic] using hown'⟩
        case measure => simp [intOf]; omega
      · go_wp2
        go_roundw
        case rel =>
          obtain ⟨x', hx'⟩ := (show Ext w ((ext w x).drewN nq) from by repeat (first | exact Ext.refl' _ | assumption | apply Ext.ex' | apply Ext.al | apply Ext.drN | apply Ext.dr)).get
          refine ⟨k + 1, acc, x', by omega, by omega, by omega, by go_num, Lib.hid (by rw [HD.out, if_neg hyz]), hx', ?_⟩
          unfold Own; rw [← hx']; exact hown
        case measure => simp [intOf]; omega
    · have H0 : Hid (steps l = acc) := Lib.hid (by rw [HC.out, List.drop_eq_nil_of_le (Nat.le_of_not_lt hlt)]; simp [stepsF])
      clear HC
      go_wp2
      go_ret
      exact ⟨_, rfl, Ext.ex _ _, by rw [H0.out]; exact hown⟩

end Go.Proofs.Ytfimkjponcnlmaa
