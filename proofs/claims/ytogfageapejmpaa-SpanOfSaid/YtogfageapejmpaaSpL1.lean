/- The walk of the law SpanOf. -/
import Derived.Test.YtogfageapejmpaaSpG
set_option linter.unusedSimpArgs false
set_option linter.unusedVariables false
namespace Go.Proofs.Ytogfageapejmpaa
open Go.RowKit


set_option maxRecDepth 100000 in
set_option maxHeartbeats 8000000 in
theorem lawOf_any (L : Option Addr) (cl : Nat) (l : List (Int × Int)) (w : World) (hl : Rd w 2 L l.length (pc l)) (nl : l.length ≤ 9223372036854775807) :
    Calls Try.prog 3 #[.slice L l.length cl] w fun e w' => e = .returned (.bool true) ∧ Ext w w' := by

  by_cases gl : 30 < l.length
  · go_enter Try.func3, Try.ntmps3
    go_wp2_with fail
    refine Calls.mono (awake_any _) ?_
    rintro e w1 ⟨rfl, hb1⟩
    obtain ⟨x1, rfl⟩ := hb1.get
    clear hb1
    go_wp2
    go_ret
    exact ⟨rfl, by repeat (first | exact Ext.refl' _ | assumption | apply Ext.ex' | apply Ext.al | apply Ext.drN | apply Ext.dr)⟩
  · skip
    have G1 := Lib.hid (fun w h => sof_any L cl l w h (by omega))
    have G2 := Lib.hid (fun w h => rof_any L cl l w h (by omega))
    change Hid (∀ w h, Calls _ _ _ _ (RdP 2 (ofF l).length (pc (ofF l)) w)) at G2
    have G3 := Lib.hid (fun w h => slength_any L cl l w h (by omega))
    have G4 := Lib.hid (fun w h => rlength_any L cl l w h (by omega))
    have G5 := Lib.hid (fun w h => spoints_any L cl l w h (by omega))
    have G6 := Lib.hid (fun w h => rpoints_any L cl l w h (by omega))
    have G7 := Lib.hid (fun w h => sslices_any L cl l w h (by omega))
    have G8 := Lib.hid (fun w h => rslices_any L cl l w h (by omega))
    have b1 := can_short (ofF_can l)
    have b2 := ptsF_length l
    have b3 := slcF_length l
    generalize lenF (ofF l) = z at G3 G4
    generalize ofF l = r at G1 G2 b1
    generalize ptsF l = ps at G5 G6 b2
    generalize slcF l = sl at G7 G8 b3
    have hz : (z == z) = true := by simp
    go_enter Try.func3, Try.ntmps3
    go_wp2_with fail
    refine Calls.mono (G1.out _ (hl.ext (by repeat (first | exact Ext.refl' _ | assumption | apply Ext.ex' | apply Ext.al | apply Ext.drN | apply Ext.dr)))) ?_
    rintro e w1 ⟨A1, c1, rfl, hb1, hR1⟩
    obtain ⟨x1, rfl⟩ := hb1.get
    clear hb1
    go_wp2_with fail
    refine Calls.mono (G2.out _ (hl.ext (by repeat (first | exact Ext.refl' _ | assumption | apply Ext.ex' | apply Ext.al | apply Ext.drN | apply Ext.dr)))) ?_
    rintro e w1 ⟨A2, c2, rfl, hb1, hR2⟩
    obtain ⟨x2, rfl⟩ := hb1.get
    clear hb1
    go_wp2_with fail
    refine Calls.mono (same_yes _ _ _ _ _ _ r r rfl rfl rfl _ (hR1.ext (by repeat (first | exact Ext.refl' _ | assumption | apply Ext.ex' | apply Ext.al | apply Ext.drN | apply Ext.dr))) (hR2.ext (by repeat (first | exact Ext.refl' _ | assumption | apply Ext.ex' | apply Ext.al | apply Ext.drN | apply Ext.dr))) (by omega)) ?_
    rintro e w1 ⟨rfl, hb1⟩
    obtain ⟨x3, rfl⟩ := hb1.get
    clear hb1
    go_wp2_with fail
    refine Calls.mono (G3.out _ (hl.ext (by repeat (first | exact Ext.refl' _ | assumption | apply Ext.ex' | apply Ext.al | apply Ext.drN | apply Ext.dr)))) ?_
    rintro e w1 ⟨rfl, hb1⟩
    obtain ⟨x4, rfl⟩ := hb1.get
    clear hb1
    go_wp2_with fail
    refine Calls.mono (G4.out _ (hl.ext (by repeat (first | exact Ext.refl' _ | assumption | apply Ext.ex' | apply Ext.al | apply Ext.drN | apply Ext.dr)))) ?_
    rintro e w1 ⟨rfl, hb1⟩
    obtain ⟨x5, rfl⟩ := hb1.get
    clear hb1
    go_wp2_with fail
    refine Calls.mono (G5.out _ (hl.ext (by repeat (first | exact Ext.refl' _ | assumption | apply Ext.ex' | apply Ext.al | apply Ext.drN | apply Ext.dr)))) ?_
    rintro e w1 ⟨A6, c6, rfl, hb1, hR6⟩
    obtain ⟨x6, rfl⟩ := hb1.get
    clear hb1
    go_wp2_with fail
    refine Calls.mono (G6.out _ (hl.ext (by repeat (first | exact Ext.refl' _ | assumption | apply Ext.ex' | apply Ext.al | apply Ext.drN | apply Ext.dr)))) ?_
    rintro e w1 ⟨A7, c7, rfl, hb1, hR7⟩
    obtain ⟨x7, rfl⟩ := hb1.get
    clear hb1
    go_wp2_with fail
    refine Calls.mono (sameInts_yes _ _ _ _ _ _ ps ps rfl rfl rfl _ (hR6.ext (by repeat (first | exact Ext.refl' _ | assumption | apply Ext.ex' | apply Ext.al | apply Ext.drN | apply Ext.dr))) (hR7.ext (by repeat (first | exact Ext.refl' _ | assumption | apply Ext.ex' | apply Ext.al | apply Ext.drN | apply Ext.dr))) (by omega)) ?_
    rintro e w1 ⟨rfl, hb1⟩
    obtain ⟨x8, rfl⟩ := hb1.get
    clear hb1
    go_wp2_with fail
    refine Calls.mono (G7.out _ (hl.ext (by repeat (first | exact Ext.refl' _ | assumption | apply Ext.ex' | apply Ext.al | apply Ext.drN | apply Ext.dr)))) ?_
    rintro e w1 ⟨A9, c9, rfl, hb1, hR9⟩
    obtain ⟨x9, rfl⟩ := hb1.get
    clear hb1
    go_wp2_with fail
    refine Calls.mono (G8.out _ (hl.ext (by repeat (first | exact Ext.refl' _ | assumption | apply Ext.ex' | apply Ext.al | apply Ext.drN | apply Ext.dr)))) ?_
    rintro e w1 ⟨A10, c10, rfl, hb1, hR10⟩
    obtain ⟨x10, rfl⟩ := hb1.get
    clear hb1
    go_wp2_with fail
    refine Calls.mono (same_yes _ _ _ _ _ _ sl sl rfl rfl rfl _ (hR9.ext (by repeat (first | exact Ext.refl' _ | assumption | apply Ext.ex' | apply Ext.al | apply Ext.drN | apply Ext.dr))) (hR10.ext (by repeat (first | exact Ext.refl' _ | assumption | apply Ext.ex' | apply Ext.al | apply Ext.drN | apply Ext.dr))) (by omega)) ?_
    rintro e w1 ⟨rfl, hb1⟩
    obtain ⟨x11, rfl⟩ := hb1.get
    clear hb1
    go_wp2_with fail
    refine Calls.mono (awake_any _) ?_
    rintro e w1 ⟨rfl, hb1⟩
    obtain ⟨x12, rfl⟩ := hb1.get
    clear hb1
    go_wp2
    go_ret
    exact ⟨rfl, by repeat (first | exact Ext.refl' _ | assumption | apply Ext.ex' | apply Ext.al | apply Ext.drN | apply Ext.dr)⟩

end Go.Proofs.Ytogfageapejmpaa
