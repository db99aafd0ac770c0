/- The walk of the law RegionCombines. -/
import Derived.Test.YtcnhnbdgmfhfgaaRgK
set_option linter.unusedSimpArgs false
set_option linter.unusedVariables false
namespace Go.Proofs.Ytcnhnbdgmfhfgaa
open Go.RowKit


set_option maxRecDepth 100000 in
set_option maxHeartbeats 8000000 in
theorem lawRCombines_any (A : Option Addr) (ca : Nat) (a : List Rct) (B : Option Addr) (cb : Nat) (b : List Rct) (w : World) (ha : Rd w 4 A a.length (rcl a)) (hb : Rd w 4 B b.length (rcl b)) (na : a.length ≤ 9223372036854775807) (nb : b.length ≤ 9223372036854775807) :
    Calls Try.prog 3 #[.slice A a.length ca, .slice B b.length cb] w fun e w' => e = .returned (.bool true) ∧ Ext w w' := by
  by_cases ga : 12 < a.length
  · go_enter Try.func3, Try.ntmps3
    go_wp2_with fail
    refine Calls.mono (awakeR_any _) ?_
    rintro e w1 ⟨rfl, hb1⟩
    obtain ⟨x1, rfl⟩ := hb1.get
    clear hb1
    go_wp2
    go_ret
    exact ⟨rfl, by repeat (first | exact Ext.refl' _ | assumption | apply Ext.ex' | apply Ext.al | apply Ext.drN | apply Ext.dr)⟩
  by_cases gb : 12 < b.length
  · go_enter Try.func3, Try.ntmps3
    go_wp2_with fail
    refine Calls.mono (awakeR_any _) ?_
    rintro e w1 ⟨rfl, hb1⟩
    obtain ⟨x1, rfl⟩ := hb1.get
    clear hb1
    go_wp2
    go_ret
    exact ⟨rfl, by repeat (first | exact Ext.refl' _ | assumption | apply Ext.ex' | apply Ext.al | apply Ext.drN | apply Ext.dr)⟩
  have G1 := Lib.hid (fun w h1 h2 => gUnion_any A B ca cb a b w h1 h2 (by omega) (by omega))
  have G2 := Lib.hid (fun w h1 h2 => runionR_any A B ca cb a b w h1 h2 (by omega) (by omega))
  have G3 := Lib.hid (fun w h1 h2 => gIntersect_any A B ca cb a b w h1 h2 (by omega) (by omega))
  have G4 := Lib.hid (fun w h1 h2 => rintersectR_any A B ca cb a b w h1 h2 (by omega) (by omega))
  have G5 := Lib.hid (fun w h1 h2 => gSubtract_any A B ca cb a b w h1 h2 (by omega) (by omega))
  have G6 := Lib.hid (fun w h1 h2 => rsubtractR_any A B ca cb a b w h1 h2 (by omega) (by omega))
  have b1 := regF_24 (k := ofK) (a := a) (b := b) (by omega) (by omega)
  have b2 := regF_24 (k := interK) (a := a) (b := b) (by omega) (by omega)
  have b3 := regF_24 (k := subK) (a := a) (b := b) (by omega) (by omega)
  generalize regF ofK a b = r1 at G1 G2 b1
  generalize regF interK a b = r2 at G3 G4 b2
  generalize regF subK a b = r3 at G5 G6 b3
  go_enter Try.func3, Try.ntmps3
  go_wp2_with fail
  refine Calls.mono (G1.out _ (ha.ext (by repeat (first | exact Ext.refl' _ | assumption | apply Ext.ex' | apply Ext.al | apply Ext.drN | apply Ext.dr))) (hb.ext (by repeat (first | exact Ext.refl' _ | assumption | apply Ext.ex' | apply Ext.al | apply Ext.drN | apply Ext.dr)))) ?_
  rintro e w1 ⟨A1, c1, rfl, hb1, hR1⟩
  obtain ⟨x1, rfl⟩ := hb1.get
  clear hb1
  go_wp2_with fail
  refine Calls.mono (G2.out _ (ha.ext (by repeat (first | exact Ext.refl' _ | assumption | apply Ext.ex' | apply Ext.al | apply Ext.drN | apply Ext.dr))) (hb.ext (by repeat (first | exact Ext.refl' _ | assumption | apply Ext.ex' | apply Ext.al | apply Ext.drN | apply Ext.dr)))) ?_
  rintro e w1 ⟨A2, c2, rfl, hb1, hR2⟩
  obtain ⟨x2, rfl⟩ := hb1.get
  clear hb1
  go_wp2_with fail
  refine Calls.mono (sameR_yes _ _ _ _ _ _ r1 r1 rfl rfl rfl _ (hR1.ext (by repeat (first | exact Ext.refl' _ | assumption | apply Ext.ex' | apply Ext.al | apply Ext.drN | apply Ext.dr))) (hR2.ext (by repeat (first | exact Ext.refl' _ | assumption | apply Ext.ex' | apply Ext.al | apply Ext.drN | apply Ext.dr))) (by omega)) ?_
  rintro e w1 ⟨rfl, hb1⟩
  obtain ⟨x3, rfl⟩ := hb1.get
  clear hb1
  go_wp2_with fail
  refine Calls.mono (G3.out _ (ha.ext (by repeat (first | exact Ext.refl' _ | assumption | apply Ext.ex' | apply Ext.al | apply Ext.drN | apply Ext.dr))) (hb.ext (by repeat (first | exact Ext.refl' _ | assumption | apply Ext.ex' | apply Ext.al | apply Ext.drN | apply Ext.dr)))) ?_
  rintro e w1 ⟨A4, c4, rfl, hb1, hR4⟩
  obtain ⟨x4, rfl⟩ := hb1.get
  clear hb1
  go_wp2_with fail
  refine Calls.mono (G4.out _ (ha.ext (by repeat (first | exact Ext.refl' _ | assumption | apply Ext.ex' | apply Ext.al | apply Ext.drN | apply Ext.dr))) (hb.ext (by repeat (first | exact Ext.refl' _ | assumption | apply Ext.ex' | apply Ext.al | apply Ext.drN | apply Ext.dr)))) ?_
  rintro e w1 ⟨A5, c5, rfl, hb1, hR5⟩
  obtain ⟨x5, rfl⟩ := hb1.get
  clear hb1
  go_wp2_with fail
  refine Calls.mono (sameR_yes _ _ _ _ _ _ r2 r2 rfl rfl rfl _ (hR4.ext (by repeat (first | exact Ext.refl' _ | assumption | apply Ext.ex' | apply Ext.al | apply Ext.drN | apply Ext.dr))) (hR5.ext (by repeat (first | exact Ext.refl' _ | assumption | apply Ext.ex' | apply Ext.al | apply Ext.drN | apply Ext.dr))) (by omega)) ?_
  rintro e w1 ⟨rfl, hb1⟩
  obtain ⟨x6, rfl⟩ := hb1.get
  clear hb1
  go_wp2_with fail
  refine Calls.mono (G5.out _ (ha.ext (by repeat (first | exact Ext.refl' _ | assumption | apply Ext.ex' | apply Ext.al | apply Ext.drN | apply Ext.dr))) (hb.ext (by repeat (first | exact Ext.refl' _ | assumption | apply Ext.ex' | apply Ext.al | apply Ext.drN | apply Ext.dr)))) ?_
  rintro e w1 ⟨A7, c7, rfl, hb1, hR7⟩
  obtain ⟨x7, rfl⟩ := hb1.get
  clear hb1
  go_wp2_with fail
  refine Calls.mono (G6.out _ (ha.ext (by repeat (first | exact Ext.refl' _ | assumption | apply Ext.ex' | apply Ext.al | apply Ext.drN | apply Ext.dr))) (hb.ext (by repeat (first | exact Ext.refl' _ | assumption | apply Ext.ex' | apply Ext.al | apply Ext.drN | apply Ext.dr)))) ?_
  rintro e w1 ⟨A8, c8, rfl, hb1, hR8⟩
  obtain ⟨x8, rfl⟩ := hb1.get
  clear hb1
  go_wp2_with fail
  refine Calls.mono (sameR_yes _ _ _ _ _ _ r3 r3 rfl rfl rfl _ (hR7.ext (by repeat (first | exact Ext.refl' _ | assumption | apply Ext.ex' | apply Ext.al | apply Ext.drN | apply Ext.dr))) (hR8.ext (by repeat (first | exact Ext.refl' _ | assumption | apply Ext.ex' | apply Ext.al | apply Ext.drN | apply Ext.dr))) (by omega)) ?_
  rintro e w1 ⟨rfl, hb1⟩
  obtain ⟨x9, rfl⟩ := hb1.get
  clear hb1
  go_wp2_with fail
  refine Calls.mono (awakeR_any _) ?_
  rintro e w1 ⟨rfl, hb1⟩
  obtain ⟨x10, rfl⟩ := hb1.get
  clear hb1
  go_wp2
  go_ret
  exact ⟨rfl, by repeat (first | exact Ext.refl' _ | assumption | apply Ext.ex' | apply Ext.al | apply Ext.drN | apply Ext.dr)⟩

end Go.Proofs.Ytcnhnbdgmfhfgaa
