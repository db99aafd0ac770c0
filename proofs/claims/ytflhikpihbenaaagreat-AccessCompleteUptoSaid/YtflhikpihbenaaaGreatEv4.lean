/- Relations of periods; values of texts, choices, relations. -/
import Derived.Test.YtflhikpihbenaaaGreatEv3
import Derived.Deep.LoopGhost
set_option linter.unusedSimpArgs false
set_option linter.unusedVariables false
namespace Go.Proofs.YtflhikpihbenaaaGreat
open Go.RowKit


set_option maxRecDepth 100000 in
set_option maxHeartbeats 8000000 in
theorem is_any (op : Int) (p q : Int × Int) (w : World) : Calls Tryz.prog 80 #[.int .i64 op, pr p, pr q] w fun e w' => RB e ∧ Ext w w' := by
  go_enter Tryz.func80, Tryz.ntmps80
  go_wp2
  all_goals go_ret
  all_goals exact ⟨RB.mk7 _, by repeat (first | exact Ext.refl' _ | assumption | apply Ext.ex' | apply Ext.al | apply Ext.drN | apply Ext.dr)⟩
theorem rvalidp_any (p : Int × Int) (w : World) : Calls Tryz.prog 15 #[pr p] w fun e w' => RB e ∧ Ext w w' := by
  go_enter Tryz.func15, Tryz.ntmps15
  go_wp2
  all_goals go_ret
  all_goals exact ⟨RB.mk7 _, by repeat (first | exact Ext.refl' _ | assumption | apply Ext.ex' | apply Ext.al | apply Ext.drN | apply Ext.dr)⟩
set_option maxRecDepth 100000 in
set_option maxHeartbeats 8000000 in
theorem holds_any (op : Int) (p q : Int × Int) (w : World) : Calls Tryz.prog 76 #[.int .i64 op, pr p, pr q] w fun e w' => RB e ∧ Ext w w' := by
  have HP := Lib.hid fun W => rvalidp_any p W
  have HQ := Lib.hid fun W => rvalidp_any q W
  go_enter Tryz.func76, Tryz.ntmps76
  go_wp2_with fail
  refine (HP.out _).mono ?_
  rintro e w1 ⟨⟨bp, rfl⟩, hb1⟩
  obtain ⟨x1, rfl⟩ := hb1.get
  clear hb1
  cases bp
  · go_wp2
    go_ret
    exact ⟨RB.mk7 _, by repeat (first | exact Ext.refl' _ | assumption | apply Ext.ex' | apply Ext.al | apply Ext.drN | apply Ext.dr)⟩
  go_wp2_with fail
  refine (HQ.out _).mono ?_
  rintro e w1 ⟨⟨bq, rfl⟩, hb1⟩
  obtain ⟨x2, rfl⟩ := hb1.get
  clear hb1
  cases bq
  · go_wp2
    go_ret
    exact ⟨RB.mk7 _, by repeat (first | exact Ext.refl' _ | assumption | apply Ext.ex' | apply Ext.al | apply Ext.drN | apply Ext.dr)⟩
  go_wp2_with fail
  refine (is_any op p q _).mono ?_
  rintro e w1 ⟨⟨bi, rfl⟩, hb1⟩
  obtain ⟨x3, rfl⟩ := hb1.get
  clear hb1
  go_wp2
  go_ret
  exact ⟨RB.mk7 _, by repeat (first | exact Ext.refl' _ | assumption | apply Ext.ex' | apply Ext.al | apply Ext.drN | apply Ext.dr)⟩
def RIB (e : Ending) : Prop := ∃ (k : Int) (b : Bool), e = .returned (.tuple #[.int .i64 k, .bool b])
theorem RIB.mk (k : Int) (b : Bool) : RIB (.returned (.tuple #[.int .i64 k, .bool b])) := ⟨k, b, rfl⟩
set_option maxRecDepth 100000 in
set_option maxHeartbeats 8000000 in
theorem relation_any (p q : Int × Int) (w : World) : Calls Tryz.prog 66 #[pr p, pr q] w fun e w' => RIB e ∧ Ext w w' := by
  go_enter Tryz.func66, Tryz.ntmps66
  go_wp2
  go_loopg [6] 13 (fun g ix wr => ∃ k : Nat, ix = .int .i64 k ∧ k ≤ 13 ∧ 13 - k ≤ g ∧ Ext ((w.alloc (.cells #[.int .i64 p.1, .int .i64 p.2] 35)).alloc (.cells #[.int .i64 q.1, .int .i64 q.2] 35)) wr)
  case atStart => exact ⟨0, rfl, by omega, by omega, by repeat (first | exact Ext.refl' _ | assumption | apply Ext.ex' | apply Ext.al | apply Ext.drN | apply Ext.dr)⟩
  case round =>
    obtain ⟨k, rfl, hk, hg, hE⟩ := hrel
    obtain ⟨x, rfl⟩ := hE.get
    clear hE
    have HG := Lib.hid hg
    clear hg
    by_cases hlt : k < 13
    · have hkz : (k : Int) < 13 := by omega
      go_wp2_with fail
      refine (holds_any k p q _).mono ?_
      rintro e w1 ⟨⟨bi, rfl⟩, hb1⟩
      obtain ⟨x3, rfl⟩ := hb1.get
      clear hb1
      cases bi
      · go_wp2
        go_roundg (gk - 1)
        case rel => exact ⟨k + 1, by go_num, by omega, by have := HG.out; omega, by repeat (first | exact Ext.refl' _ | assumption | apply Ext.ex' | apply Ext.al | apply Ext.drN | apply Ext.dr)⟩
        case measure => have := HG.out; omega
      · go_wp2
        go_ret2
        exact ⟨RIB.mk _ _, by repeat (first | exact Ext.refl' _ | assumption | apply Ext.ex' | apply Ext.al | apply Ext.drN | apply Ext.dr)⟩
    · have hkz : ¬ ((k : Int) < 13) := by omega
      go_wp2
      go_ret2
      exact ⟨RIB.mk _ _, by repeat (first | exact Ext.refl' _ | assumption | apply Ext.ex' | apply Ext.al | apply Ext.drN | apply Ext.dr)⟩

end Go.Proofs.YtflhikpihbenaaaGreat
