/- The walk of the law ConflictChanged. -/
import Derived.Test.YtpifjhoelnacgaaGreatCfF
import Derived.Test.YtpifjhoelnacgaaGreatCfT
import Derived.Test.YtpifjhoelnacgaaGreatCfL3
import Derived.Deep.RegionHeld3
set_option linter.unusedSimpArgs false
set_option linter.unusedVariables false
namespace Go.Proofs.YtpifjhoelnacgaaGreat
open Go.RowKit


set_option maxRecDepth 100000 in
set_option maxHeartbeats 8000000 in
theorem lawChanged_any (tn : ByteArray) (A : Option Addr) (c : Nat) (l : List VR) (x : Int) (w : World) (hR : Rd w 9 A l.length (l.flatMap fun p : VR => ev p.1)) (hok : ∀ p ∈ l, VROk w p) (htn : tn.size ≤ maxLen) :
    Calls Tryz.prog 3 #[.string tn, .slice A l.length c, .int .i64 x] w fun e w' => e = .returned (.bool true) ∧ Ext w w' := by
  have hA : Rd w 9 A l.length (vev l) := by
    have e : vev l = l.flatMap fun p : VR => ev p.1 := by unfold vev evl; rw [List.flatMap_map]
    rw [e]; exact hR
  clear hR
  have HF := Lib.hid (few_any A l.length c (l.map (·.1)) w (by simp) (show Rd w 9 A l.length (evl (l.map (·.1))) from hA))
  rcases hf : fewF (l.map (·.1)) with _ | _
  · rw [hf] at HF
    clear hf hok
    go_enter Tryz.func3, Tryz.ntmps3
    go_wp2_with (first | (go_at_call 6; (with_reducible refine Calls.mono HF.out ?_); rintro e w1 ⟨rfl, hb1⟩; obtain ⟨yf, rfl⟩ := hb1.get; clear hb1) | (go_at_call 7; (with_reducible refine Calls.mono (works_any _) ?_); rintro e w1 ⟨rfl, hb1⟩; obtain ⟨yw, rfl⟩ := hb1.get; clear hb1))
    go_ret
    exact ⟨rfl, by repeat (first | exact Ext.refl' _ | assumption | apply Ext.ex' | apply Ext.al | apply Ext.drN | apply Ext.dr)⟩
  · rw [hf] at HF
    have hl : l.length ≤ 40 := by have := (fewF_out hf).1; simpa using this
    clear hf
    have HOK := Lib.hid hok
    clear hok
    have HC1 := Lib.hid (fun W hE => changed_any tn A l.length c l x W rfl (hA.ext hE) (fun p hp => (HOK.out p hp).ext hE) (by omega) htn)
    have HC2 := Lib.hid (fun W hE => rchanged_any tn A l.length c l x W rfl (hA.ext hE) (fun p hp => (HOK.out p hp).ext hE) (by omega))
    have HS := Lib.hid same_yes
    have HLE : Hid ((chgL tn l x).length ≤ 1048576) := Lib.hid (by
      have h1 : (bndV l x).length ≤ l.length := by
        unfold bndV; rw [List.length_map]; exact List.length_filter_le _ _
      have h2 := slcF_length (bndV l x)
      unfold chgL
      rw [List.length_map]
      exact Nat.le_trans (List.length_filter_le _ _) (by omega))
    go_enter Tryz.func3, Tryz.ntmps3
    go_wp2_with (first | (go_at_call 6; (with_reducible refine Calls.mono HF.out ?_); rintro e w1 ⟨rfl, hb1⟩; obtain ⟨yf, rfl⟩ := hb1.get; clear hb1) | fail)
    go_wp2_with fail
    refine Calls.mono (HC1.out _ (by repeat (first | exact Ext.refl' _ | assumption | apply Ext.ex' | apply Ext.al | apply Ext.drN | apply Ext.dr))) ?_
    rintro e w1 ⟨A1, c1, r, rfl, hb1, hR1, hst⟩
    obtain ⟨x1, rfl⟩ := hb1.get
    clear hb1
    go_wp2_with fail
    refine Calls.mono (HC2.out _ (by repeat (first | exact Ext.refl' _ | assumption | apply Ext.ex' | apply Ext.al | apply Ext.drN | apply Ext.dr))) ?_
    rintro e w1 ⟨A2, c2, r2, rfl, hb1, hR2, hst2⟩
    obtain ⟨x2, rfl⟩ := hb1.get
    clear hb1
    have e2 := hst.eq hst2
    subst e2
    have hrl : r.length ≤ 1048577 := Nat.le_trans hst.le (Nat.le_trans HLE.out (by decide))
    have HS1 := Lib.hid (HS.out A1 A2 c1 c2 r _ (hR1.ext (Ext.ex _ x2)) hR2 hrl)
    clear hst hst2 hR1 hR2
    go_wp2_with fail
    refine Calls.mono HS1.out ?_
    rintro e w1 ⟨rfl, hb1⟩
    obtain ⟨x3, rfl⟩ := hb1.get
    clear hb1
    go_wp2_with (go_at_call 7; (with_reducible refine Calls.mono (works_any _) ?_); rintro e w1 ⟨rfl, hb1⟩; obtain ⟨yw, rfl⟩ := hb1.get; clear hb1)
    go_ret
    exact ⟨rfl, by repeat (first | exact Ext.refl' _ | assumption | apply Ext.ex' | apply Ext.al | apply Ext.drN | apply Ext.dr)⟩

end Go.Proofs.YtpifjhoelnacgaaGreat
