/- The walk of the law SpanTells. -/
import Derived.Test.YtogfageapejmpaaSpG
set_option linter.unusedSimpArgs false
set_option linter.unusedVariables false
namespace Go.Proofs.Ytogfageapejmpaa
open Go.RowKit


set_option maxRecDepth 100000 in
set_option maxHeartbeats 8000000 in
theorem lawTells_any (L : Option Addr) (cl : Nat) (l : List (Int × Int)) (t : Int) (w : World) (hl : Rd w 2 L l.length (pc l)) (nl : l.length ≤ 9223372036854775807) :
    Calls Try.prog 9 #[.slice L l.length cl, .int .i64 t] w fun e w' => e = .returned (.bool true) ∧ Ext w w' := by

  by_cases gl : 30 < l.length
  · go_enter Try.func9, Try.ntmps9
    go_wp2_with fail
    refine Calls.mono (awake_any _) ?_
    rintro e w1 ⟨rfl, hb1⟩
    obtain ⟨x1, rfl⟩ := hb1.get
    clear hb1
    go_wp2
    go_ret
    exact ⟨rfl, by repeat (first | exact Ext.refl' _ | assumption | apply Ext.ex' | apply Ext.al | apply Ext.drN | apply Ext.dr)⟩
  · skip
    have G1 := Lib.hid (fun w h => snext_any L cl l t w h (by omega))
    have G2 := Lib.hid (fun w h => rnext_any L cl l t w h (by omega))
    have G3 := Lib.hid (fun w h => svalid_any L cl l w h (by omega))
    have G4 := Lib.hid (fun w h => rvalidL_any L cl l w h (by omega))
    have G5 := Lib.hid (fun w h => scont_any L cl l t w h (by omega))
    have G6 := Lib.hid (fun w h => rcont_any L cl l t w h (by omega))
    generalize nextF t (ofF l) = nx at G1 G2
    generalize canF none l = v at G3 G4
    generalize inL l t = u at G5 G6
    obtain ⟨z, q⟩ := nx
    simp only at G1 G2
    have hz : (z == z) = true := by simp
    have hq : (q == q) = true := by simp
    have hv : (v == v) = true := by simp
    have hu : (u == u) = true := by simp
    go_enter Try.func9, Try.ntmps9
    go_wp2_with fail
    refine Calls.mono (G1.out _ (hl.ext (by repeat (first | exact Ext.refl' _ | assumption | apply Ext.ex' | apply Ext.al | apply Ext.drN | apply Ext.dr)))) ?_
    rintro e w1 ⟨rfl, hb1⟩
    obtain ⟨x1, rfl⟩ := hb1.get
    clear hb1
    go_wp2_with fail
    refine Calls.mono (G2.out _ (hl.ext (by repeat (first | exact Ext.refl' _ | assumption | apply Ext.ex' | apply Ext.al | apply Ext.drN | apply Ext.dr)))) ?_
    rintro e w1 ⟨rfl, hb1⟩
    obtain ⟨x2, rfl⟩ := hb1.get
    clear hb1
    go_wp2_with fail
    refine Calls.mono (G3.out _ (hl.ext (by repeat (first | exact Ext.refl' _ | assumption | apply Ext.ex' | apply Ext.al | apply Ext.drN | apply Ext.dr)))) ?_
    rintro e w1 ⟨rfl, hb1⟩
    obtain ⟨x3, rfl⟩ := hb1.get
    clear hb1
    go_wp2_with fail
    refine Calls.mono (G4.out _ (hl.ext (by repeat (first | exact Ext.refl' _ | assumption | apply Ext.ex' | apply Ext.al | apply Ext.drN | apply Ext.dr)))) ?_
    rintro e w1 ⟨rfl, hb1⟩
    obtain ⟨x4, rfl⟩ := hb1.get
    clear hb1
    go_wp2_with fail
    refine Calls.mono (G5.out _ (hl.ext (by repeat (first | exact Ext.refl' _ | assumption | apply Ext.ex' | apply Ext.al | apply Ext.drN | apply Ext.dr)))) ?_
    rintro e w1 ⟨rfl, hb1⟩
    obtain ⟨x5, rfl⟩ := hb1.get
    clear hb1
    go_wp2_with fail
    refine Calls.mono (G6.out _ (hl.ext (by repeat (first | exact Ext.refl' _ | assumption | apply Ext.ex' | apply Ext.al | apply Ext.drN | apply Ext.dr)))) ?_
    rintro e w1 ⟨rfl, hb1⟩
    obtain ⟨x6, rfl⟩ := hb1.get
    clear hb1
    go_wp2_with fail
    refine Calls.mono (awake_any _) ?_
    rintro e w1 ⟨rfl, hb1⟩
    obtain ⟨x7, rfl⟩ := hb1.get
    clear hb1
    go_wp2
    go_ret
    exact ⟨rfl, by repeat (first | exact Ext.refl' _ | assumption | apply Ext.ex' | apply Ext.al | apply Ext.drN | apply Ext.dr)⟩

end Go.Proofs.Ytogfageapejmpaa
