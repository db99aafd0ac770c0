/- The contract of slices.Equal at periods. -/
import Derived.Test.YtimhehnmmjgeaaaGreatDoorRgD
set_option linter.unusedSimpArgs false
set_option linter.unusedVariables false
namespace Go.Proofs.YtimhehnmmjgeaaaGreatDoor
open Go.RowKit


set_option maxHeartbeats 800000 in
theorem equal_any (A B : Option Addr) (c d : Nat) (l m : List (Int × Int)) (w : World) (hA : Rd w 2 A l.length (pc l)) (hB : Rd w 2 B m.length (pc m)) (hl : l.length ≤ 9223372036854775807) (hm : m.length ≤ 9223372036854775807) :
    Calls Tryz.prog 75 #[.slice A l.length c, .slice B m.length d] w fun e w' => e = .returned (.bool (decide (l = m))) ∧ Ext w w' := by
  go_enter Tryz.func75, Tryz.ntmps75
  by_cases hn : l.length = m.length
  · have hb : ((l.length : Int) != (m.length : Int)) = false := by simp [hn]
    have HN := Lib.hid hn
    clear hn
    go_wp2
    go_loopw [13] (fun i wr => ∃ k : Nat, k ≤ l.length ∧ i = .int .i64 k ∧ Hid (l.take k = m.take k) ∧ Ext w wr) (fun i _ => l.length - (intOf i).toNat)
    case atStart => exact ⟨0, Nat.zero_le _, rfl, Lib.hid (by simp), Ext.refl' _⟩
    case round =>
      obtain ⟨k, hk, rfl, HT, hext⟩ := hrel
      obtain ⟨x, rfl⟩ := hext.get
      clear hext
      by_cases hlt : k < l.length
      · obtain ⟨b, o, rfl, hb, hc, hc2⟩ := hA.pair rfl hlt
        have hlt' : k < m.length := by have := HN.out; omega
        obtain ⟨b', o', rfl, hb', hd, hd2⟩ := hB.pair rfl hlt'
        go_wp2
        go_quiet (fail)
        go_wp2
        all_goals first
          | (go_ret
             refine ⟨?_, by repeat (first | exact Ext.refl' _ | assumption | apply Ext.ex' | apply Ext.al | apply Ext.drN | apply Ext.dr)⟩
             have hne : l ≠ m := take_ne hlt hlt' (ne_p (by assumption))
             simp [hne])
          | (go_roundw
             case rel => exact ⟨k + 1, by omega, by go_num, Lib.hid (take_succ_eq hlt hlt' HT.out (eq_p (by assumption))), by repeat (first | exact Ext.refl' _ | assumption | apply Ext.ex' | apply Ext.al | apply Ext.drN | apply Ext.dr)⟩
             case measure => simp [intOf]; omega)
      · go_wp2
        go_ret
        exact ⟨by rw [eq_of_takes HN.out hlt HT.out]; simp, Ext.ex _ _⟩
  · have hb : ((l.length : Int) != (m.length : Int)) = true := by simp; omega
    have hlm : decide (l = m) = false := by simp; rintro rfl; exact hn rfl
    rw [hlm]
    clear hn hlm
    go_wp2
    go_ret
    exact ⟨rfl, Ext.refl' _⟩

end Go.Proofs.YtimhehnmmjgeaaaGreatDoor
