/- The walk of the law RegionOf. -/
import Derived.Test.YtcnhnbdgmfhfgaaRgK
set_option linter.unusedSimpArgs false
set_option linter.unusedVariables false
namespace Go.Proofs.Ytcnhnbdgmfhfgaa
open Go.RowKit


set_option maxRecDepth 100000 in
set_option maxHeartbeats 8000000 in
theorem lawROf_any (L : Option Addr) (cl : Nat) (l : List Rct) (w : World) (hl : Rd w 4 L l.length (rcl l)) (nl : l.length ≤ 9223372036854775807) :
    Calls Try.prog 7 #[.slice L l.length cl] w fun e w' => e = .returned (.bool true) ∧ Ext w w' := by
  by_cases gl : 12 < l.length
  · go_enter Try.func7, Try.ntmps7
    go_wp2_with fail
    refine Calls.mono (awakeR_any _) ?_
    rintro e w1 ⟨rfl, hb1⟩
    obtain ⟨x1, rfl⟩ := hb1.get
    clear hb1
    go_wp2
    go_ret
    exact ⟨rfl, by repeat (first | exact Ext.refl' _ | assumption | apply Ext.ex' | apply Ext.al | apply Ext.drN | apply Ext.dr)⟩
  have hb := regF_576 (l := l) (by omega)
  have hi := of_of ofK rfl l []
  have G1 := Lib.hid (fun w h => gofR_any L cl l w h (by omega))
  have G2 := Lib.hid (fun w h => rofR_any L cl l w h (by omega))
  generalize regF ofK l [] = r at G1 G2 hb hi
  have G3 := Lib.hid (fun A c w h => gvalidL_any A c r w h (by omega) (by rw [hi]; omega))
  rw [hi] at G3
  simp only [decide_true] at G3
  clear hi
  go_enter Try.func7, Try.ntmps7
  go_wp2_with fail
  refine Calls.mono (G1.out _ (hl.ext (by repeat (first | exact Ext.refl' _ | assumption | apply Ext.ex' | apply Ext.al | apply Ext.drN | apply Ext.dr)))) ?_
  rintro e w1 ⟨A1, c1, rfl, hb1, hR1⟩
  obtain ⟨x1, rfl⟩ := hb1.get
  clear hb1
  go_wp2_with fail
  refine Calls.mono (G2.out _ (hl.ext (by repeat (first | exact Ext.refl' _ | assumption | apply Ext.ex' | apply Ext.al | apply Ext.drN | apply Ext.dr)))) ?_
  rintro e w1 ⟨A2, c2, rfl, hb1, hR2⟩
  obtain ⟨x2, rfl⟩ := hb1.get
  clear hb1
  go_wp2_with fail
  refine Calls.mono (sameR_yes _ _ _ _ _ _ r r rfl rfl rfl _ (hR1.ext (by repeat (first | exact Ext.refl' _ | assumption | apply Ext.ex' | apply Ext.al | apply Ext.drN | apply Ext.dr))) (hR2.ext (by repeat (first | exact Ext.refl' _ | assumption | apply Ext.ex' | apply Ext.al | apply Ext.drN | apply Ext.dr))) (by omega)) ?_
  rintro e w1 ⟨rfl, hb1⟩
  obtain ⟨x3, rfl⟩ := hb1.get
  clear hb1
  go_wp2_with fail
  refine Calls.mono (G3.out _ _ _ (hR1.ext (by repeat (first | exact Ext.refl' _ | assumption | apply Ext.ex' | apply Ext.al | apply Ext.drN | apply Ext.dr)))) ?_
  rintro e w1 ⟨rfl, hb1⟩
  obtain ⟨x4, rfl⟩ := hb1.get
  clear hb1
  go_wp2_with fail
  refine Calls.mono (awakeR_any _) ?_
  rintro e w1 ⟨rfl, hb1⟩
  obtain ⟨x5, rfl⟩ := hb1.get
  clear hb1
  go_wp2
  go_ret
  exact ⟨rfl, by repeat (first | exact Ext.refl' _ | assumption | apply Ext.ex' | apply Ext.al | apply Ext.drN | apply Ext.dr)⟩

end Go.Proofs.Ytcnhnbdgmfhfgaa
