/- The walk of the law RegionTells. -/
import Derived.Test.YtcnhnbdgmfhfgaaRgK
set_option linter.unusedSimpArgs false
set_option linter.unusedVariables false
namespace Go.Proofs.Ytcnhnbdgmfhfgaa
open Go.RowKit


set_option maxRecDepth 100000 in
set_option maxHeartbeats 8000000 in
theorem lawRTells_any (L : Option Addr) (cl : Nat) (l : List Rct) (v t : Int) (w : World) (hl : Rd w 4 L l.length (rcl l)) (nl : l.length ≤ 9223372036854775807) :
    Calls Try.prog 9 #[.slice L l.length cl, .int .i64 v, .int .i64 t] w fun e w' => e = .returned (.bool true) ∧ Ext w w' := by
  by_cases gl : 12 < l.length
  · go_enter Try.func9, Try.ntmps9
    go_wp2_with fail
    refine Calls.mono (awakeR_any _) ?_
    rintro e w1 ⟨rfl, hb1⟩
    obtain ⟨x1, rfl⟩ := hb1.get
    clear hb1
    go_wp2
    go_ret
    exact ⟨rfl, by repeat (first | exact Ext.refl' _ | assumption | apply Ext.ex' | apply Ext.al | apply Ext.drN | apply Ext.dr)⟩
  have hbig := regF_big (k := ofK) (a := l) (b := []) (by omega) (by simp)
  have G1 := Lib.hid (fun w h => gvalidL_any L cl l w h (by omega) hbig)
  have G2 := Lib.hid (fun w h => rvalidL_any L cl l w h (by omega) hbig)
  have G3 := Lib.hid (fun w h => gcontR_any L cl l v t w h (by omega))
  have G4 := Lib.hid (fun w h => rcontR_any L cl l v t w h (by omega))
  have G5 := Lib.hid (fun w h => gsliceS_any L cl l t w h (by omega))
  have G6 := Lib.hid (fun w h => rslice_any L cl l t w h (by omega))
  have G7 := Lib.hid (fun w h => gsection_any L cl l v w h (by omega))
  have G8 := Lib.hid (fun w h => rsection_any L cl l v w h (by omega))
  have b1 := can_short (ofF_can (sliR l t))
  have b2 := can_short (ofF_can (secR l v))
  generalize decide (regF ofK l [] = l) = q at G1 G2
  generalize inR l v t = u at G3 G4
  generalize ofF (sliR l t) = r1 at G5 G6 b1
  generalize ofF (secR l v) = r2 at G7 G8 b2
  clear hbig
  have hq : (q == q) = true := by simp
  have hu : (u == u) = true := by simp
  go_enter Try.func9, Try.ntmps9
  go_wp2_with fail
  refine Calls.mono (G1.out _ (hl.ext (by repeat (first | exact Ext.refl' _ | assumption | apply Ext.ex' | apply Ext.al | apply Ext.drN | apply Ext.dr)))) ?_
  rintro e w1 ⟨rfl, hb1⟩
  obtain ⟨x1, rfl⟩ := hb1.get
  clear hb1
  go_wp2_with fail
  refine Calls.mono (G2.out _ (hl.ext (by repeat (first | exact Ext.refl' _ | assumption | apply Ext.ex' | apply Ext.al | apply Ext.drN | apply Ext.dr)))) ?_
  rintro e w1 ⟨rfl, hb1⟩
  obtain ⟨x2, rfl⟩ := hb1.get
  clear hb1
  go_wp2_with fail
  refine Calls.mono (G3.out _ (hl.ext (by repeat (first | exact Ext.refl' _ | assumption | apply Ext.ex' | apply Ext.al | apply Ext.drN | apply Ext.dr)))) ?_
  rintro e w1 ⟨rfl, hb1⟩
  obtain ⟨x3, rfl⟩ := hb1.get
  clear hb1
  go_wp2_with fail
  refine Calls.mono (G4.out _ (hl.ext (by repeat (first | exact Ext.refl' _ | assumption | apply Ext.ex' | apply Ext.al | apply Ext.drN | apply Ext.dr)))) ?_
  rintro e w1 ⟨rfl, hb1⟩
  obtain ⟨x4, rfl⟩ := hb1.get
  clear hb1
  go_wp2_with fail
  refine Calls.mono (G5.out _ (hl.ext (by repeat (first | exact Ext.refl' _ | assumption | apply Ext.ex' | apply Ext.al | apply Ext.drN | apply Ext.dr)))) ?_
  rintro e w1 ⟨A5, c5, rfl, hb1, hR5⟩
  obtain ⟨x5, rfl⟩ := hb1.get
  clear hb1
  go_wp2_with fail
  refine Calls.mono (G6.out _ (hl.ext (by repeat (first | exact Ext.refl' _ | assumption | apply Ext.ex' | apply Ext.al | apply Ext.drN | apply Ext.dr)))) ?_
  rintro e w1 ⟨A6, c6, rfl, hb1, hR6⟩
  obtain ⟨x6, rfl⟩ := hb1.get
  clear hb1
  go_wp2_with fail
  refine Calls.mono (same_yesP _ _ _ _ _ _ r1 r1 rfl rfl rfl _ (hR5.ext (by repeat (first | exact Ext.refl' _ | assumption | apply Ext.ex' | apply Ext.al | apply Ext.drN | apply Ext.dr))) (hR6.ext (by repeat (first | exact Ext.refl' _ | assumption | apply Ext.ex' | apply Ext.al | apply Ext.drN | apply Ext.dr))) (by omega)) ?_
  rintro e w1 ⟨rfl, hb1⟩
  obtain ⟨x7, rfl⟩ := hb1.get
  clear hb1
  go_wp2_with fail
  refine Calls.mono (G7.out _ (hl.ext (by repeat (first | exact Ext.refl' _ | assumption | apply Ext.ex' | apply Ext.al | apply Ext.drN | apply Ext.dr)))) ?_
  rintro e w1 ⟨A8, c8, rfl, hb1, hR8⟩
  obtain ⟨x8, rfl⟩ := hb1.get
  clear hb1
  go_wp2_with fail
  refine Calls.mono (G8.out _ (hl.ext (by repeat (first | exact Ext.refl' _ | assumption | apply Ext.ex' | apply Ext.al | apply Ext.drN | apply Ext.dr)))) ?_
  rintro e w1 ⟨A9, c9, rfl, hb1, hR9⟩
  obtain ⟨x9, rfl⟩ := hb1.get
  clear hb1
  go_wp2_with fail
  refine Calls.mono (same_yesP _ _ _ _ _ _ r2 r2 rfl rfl rfl _ (hR8.ext (by repeat (first | exact Ext.refl' _ | assumption | apply Ext.ex' | apply Ext.al | apply Ext.drN | apply Ext.dr))) (hR9.ext (by repeat (first | exact Ext.refl' _ | assumption | apply Ext.ex' | apply Ext.al | apply Ext.drN | apply Ext.dr))) (by omega)) ?_
  rintro e w1 ⟨rfl, hb1⟩
  obtain ⟨x10, rfl⟩ := hb1.get
  clear hb1
  go_wp2_with fail
  refine Calls.mono (awakeR_any _) ?_
  rintro e w1 ⟨rfl, hb1⟩
  obtain ⟨x11, rfl⟩ := hb1.get
  clear hb1
  go_wp2
  go_ret
  exact ⟨rfl, by repeat (first | exact Ext.refl' _ | assumption | apply Ext.ex' | apply Ext.al | apply Ext.drN | apply Ext.dr)⟩

end Go.Proofs.Ytcnhnbdgmfhfgaa
