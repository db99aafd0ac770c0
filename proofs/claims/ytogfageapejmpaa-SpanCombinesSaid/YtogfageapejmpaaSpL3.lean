/- The walk of the law SpanCombines. -/
import Derived.Test.YtogfageapejmpaaSpG
set_option linter.unusedSimpArgs false
set_option linter.unusedVariables false
namespace Go.Proofs.Ytogfageapejmpaa
open Go.RowKit


set_option maxRecDepth 100000 in
set_option maxHeartbeats 8000000 in
theorem lawCombines_any (A : Option Addr) (ca : Nat) (a : List (Int × Int)) (B : Option Addr) (cb : Nat) (b : List (Int × Int)) (w : World) (ha : Rd w 2 A a.length (pc a)) (hb : Rd w 2 B b.length (pc b)) (na : a.length ≤ 9223372036854775807) (nb : b.length ≤ 9223372036854775807) :
    Calls Try.prog 6 #[.slice A a.length ca, .slice B b.length cb] w fun e w' => e = .returned (.bool true) ∧ Ext w w' := by

  by_cases ga : 30 < a.length
  · go_enter Try.func6, Try.ntmps6
    go_wp2_with fail
    refine Calls.mono (awake_any _) ?_
    rintro e w1 ⟨rfl, hb1⟩
    obtain ⟨x1, rfl⟩ := hb1.get
    clear hb1
    go_wp2
    go_ret
    exact ⟨rfl, by repeat (first | exact Ext.refl' _ | assumption | apply Ext.ex' | apply Ext.al | apply Ext.drN | apply Ext.dr)⟩
  · skip
    by_cases gb : 30 < b.length
    · go_enter Try.func6, Try.ntmps6
      go_wp2_with fail
      refine Calls.mono (awake_any _) ?_
      rintro e w1 ⟨rfl, hb1⟩
      obtain ⟨x1, rfl⟩ := hb1.get
      clear hb1
      go_wp2
      go_ret
      exact ⟨rfl, by repeat (first | exact Ext.refl' _ | assumption | apply Ext.ex' | apply Ext.al | apply Ext.drN | apply Ext.dr)⟩
    · skip
      have G1 := Lib.hid (fun w h1 h2 => sunion_any A B ca cb a b w h1 h2 (by omega) (by omega))
      have G2 := Lib.hid (fun w h1 h2 => runion_any A B ca cb a b w h1 h2 (by omega) (by omega))
      have G3 := Lib.hid (fun w h1 h2 => sintersect_any A B ca cb a b w h1 h2 (by omega) (by omega))
      have G4 := Lib.hid (fun w h1 h2 => rintersect_any A B ca cb a b w h1 h2 (by omega) (by omega))
      have G5 := Lib.hid (fun w h1 h2 => ssubtract_any A B ca cb a b w h1 h2 (by omega) (by omega))
      have G6 := Lib.hid (fun w h1 h2 => rsubtract_any A B ca cb a b w h1 h2 (by omega) (by omega))
      have G7 := Lib.hid (fun w h1 => scomplement_any A ca a w h1 (by omega))
      have G8 := Lib.hid (fun w h1 => rcomplement_any A ca a w h1 (by omega))
      have G9 := Lib.hid (fun w h1 h2 => scoversL_any A B ca cb a b w h1 h2 (by omega) (by omega))
      have G10 := Lib.hid (fun w h1 h2 => rcoversL_any A B ca cb a b w h1 h2 (by omega) (by omega))
      have b1 := can_short (combF_can ofK a b)
      have b2 := can_short (combF_can interK a b)
      have b3 := can_short (combF_can subK a b)
      have b4 := can_short (combF_can norK a [])
      generalize coversF a b = v at G9 G10
      generalize combF ofK a b = r1 at G1 G2 b1
      generalize combF interK a b = r2 at G3 G4 b2
      generalize combF subK a b = r3 at G5 G6 b3
      generalize combF norK a [] = r4 at G7 G8 b4
      have hv : (v == v) = true := by simp
      go_enter Try.func6, Try.ntmps6
      go_wp2_with fail
      refine Calls.mono (G1.out _ (ha.ext (by repeat (first | exact Ext.refl' _ | assumption | apply Ext.ex' | apply Ext.al | apply Ext.drN | apply Ext.dr))) (hb.ext (by repeat (first | exact Ext.refl' _ | assumption | apply Ext.ex' | apply Ext.al | apply Ext.drN | apply Ext.dr)))) ?_
      rintro e w1 ⟨A1, c1, rfl, hb1, hR1⟩
      obtain ⟨x1, rfl⟩ := hb1.get
      clear hb1
      go_wp2_with fail
      refine Calls.mono (G2.out _ (ha.ext (by repeat (first | exact Ext.refl' _ | assumption | apply Ext.ex' | apply Ext.al | apply Ext.drN | apply Ext.dr))) (hb.ext (by repeat (first | exact Ext.refl' _ | assumption | apply Ext.ex' | apply Ext.al | apply Ext.drN | apply Ext.dr)))) ?_
      rintro e w1 ⟨A2, c2, rfl, hb1, hR2⟩
      obtain ⟨x2, rfl⟩ := hb1.get
      clear hb1
      go_wp2_with fail
      refine Calls.mono (same_yes _ _ _ _ _ _ r1 r1 rfl rfl rfl _ (hR1.ext (by repeat (first | exact Ext.refl' _ | assumption | apply Ext.ex' | apply Ext.al | apply Ext.drN | apply Ext.dr))) (hR2.ext (by repeat (first | exact Ext.refl' _ | assumption | apply Ext.ex' | apply Ext.al | apply Ext.drN | apply Ext.dr))) (by omega)) ?_
      rintro e w1 ⟨rfl, hb1⟩
      obtain ⟨x3, rfl⟩ := hb1.get
      clear hb1
      go_wp2_with fail
      refine Calls.mono (G3.out _ (ha.ext (by repeat (first | exact Ext.refl' _ | assumption | apply Ext.ex' | apply Ext.al | apply Ext.drN | apply Ext.dr))) (hb.ext (by repeat (first | exact Ext.refl' _ | assumption | apply Ext.ex' | apply Ext.al | apply Ext.drN | apply Ext.dr)))) ?_
      rintro e w1 ⟨A4, c4, rfl, hb1, hR4⟩
      obtain ⟨x4, rfl⟩ := hb1.get
      clear hb1
      go_wp2_with fail
      refine Calls.mono (G4.out _ (ha.ext (by repeat (first | exact Ext.refl' _ | assumption | apply Ext.ex' | apply Ext.al | apply Ext.drN | apply Ext.dr))) (hb.ext (by repeat (first | exact Ext.refl' _ | assumption | apply Ext.ex' | apply Ext.al | apply Ext.drN | apply Ext.dr)))) ?_
      rintro e w1 ⟨A5, c5, rfl, hb1, hR5⟩
      obtain ⟨x5, rfl⟩ := hb1.get
      clear hb1
      go_wp2_with fail
      refine Calls.mono (same_yes _ _ _ _ _ _ r2 r2 rfl rfl rfl _ (hR4.ext (by repeat (first | exact Ext.refl' _ | assumption | apply Ext.ex' | apply Ext.al | apply Ext.drN | apply Ext.dr))) (hR5.ext (by repeat (first | exact Ext.refl' _ | assumption | apply Ext.ex' | apply Ext.al | apply Ext.drN | apply Ext.dr))) (by omega)) ?_
      rintro e w1 ⟨rfl, hb1⟩
      obtain ⟨x6, rfl⟩ := hb1.get
      clear hb1
      go_wp2_with fail
      refine Calls.mono (G5.out _ (ha.ext (by repeat (first | exact Ext.refl' _ | assumption | apply Ext.ex' | apply Ext.al | apply Ext.drN | apply Ext.dr))) (hb.ext (by repeat (first | exact Ext.refl' _ | assumption | apply Ext.ex' | apply Ext.al | apply Ext.drN | apply Ext.dr)))) ?_
      rintro e w1 ⟨A7, c7, rfl, hb1, hR7⟩
      obtain ⟨x7, rfl⟩ := hb1.get
      clear hb1
      go_wp2_with fail
      refine Calls.mono (G6.out _ (ha.ext (by repeat (first | exact Ext.refl' _ | assumption | apply Ext.ex' | apply Ext.al | apply Ext.drN | apply Ext.dr))) (hb.ext (by repeat (first | exact Ext.refl' _ | assumption | apply Ext.ex' | apply Ext.al | apply Ext.drN | apply Ext.dr)))) ?_
      rintro e w1 ⟨A8, c8, rfl, hb1, hR8⟩
      obtain ⟨x8, rfl⟩ := hb1.get
      clear hb1
      go_wp2_with fail
      refine Calls.mono (same_yes _ _ _ _ _ _ r3 r3 rfl rfl rfl _ (hR7.ext (by repeat (first | exact Ext.refl' _ | assumption | apply Ext.ex' | apply Ext.al | apply Ext.drN | apply Ext.dr))) (hR8.ext (by repeat (first | exact Ext.refl' _ | assumption | apply Ext.ex' | apply Ext.al | apply Ext.drN | apply Ext.dr))) (by omega)) ?_
      rintro e w1 ⟨rfl, hb1⟩
      obtain ⟨x9, rfl⟩ := hb1.get
      clear hb1
      go_wp2_with fail
      refine Calls.mono (G7.out _ (ha.ext (by repeat (first | exact Ext.refl' _ | assumption | apply Ext.ex' | apply Ext.al | apply Ext.drN | apply Ext.dr)))) ?_
      rintro e w1 ⟨A10, c10, rfl, hb1, hR10⟩
      obtain ⟨x10, rfl⟩ := hb1.get
      clear hb1
      go_wp2_with fail
      refine Calls.mono (G8.out _ (ha.ext (by repeat (first | exact Ext.refl' _ | assumption | apply Ext.ex' | apply Ext.al | apply Ext.drN | apply Ext.dr)))) ?_
      rintro e w1 ⟨A11, c11, rfl, hb1, hR11⟩
      obtain ⟨x11, rfl⟩ := hb1.get
      clear hb1
      go_wp2_with fail
      refine Calls.mono (same_yes _ _ _ _ _ _ r4 r4 rfl rfl rfl _ (hR10.ext (by repeat (first | exact Ext.refl' _ | assumption | apply Ext.ex' | apply Ext.al | apply Ext.drN | apply Ext.dr))) (hR11.ext (by repeat (first | exact Ext.refl' _ | assumption | apply Ext.ex' | apply Ext.al | apply Ext.drN | apply Ext.dr))) (by omega)) ?_
      rintro e w1 ⟨rfl, hb1⟩
      obtain ⟨x12, rfl⟩ := hb1.get
      clear hb1
      go_wp2_with fail
      refine Calls.mono (G9.out _ (ha.ext (by repeat (first | exact Ext.refl' _ | assumption | apply Ext.ex' | apply Ext.al | apply Ext.drN | apply Ext.dr))) (hb.ext (by repeat (first | exact Ext.refl' _ | assumption | apply Ext.ex' | apply Ext.al | apply Ext.drN | apply Ext.dr)))) ?_
      rintro e w1 ⟨rfl, hb1⟩
      obtain ⟨x13, rfl⟩ := hb1.get
      clear hb1
      go_wp2_with fail
      refine Calls.mono (G10.out _ (ha.ext (by repeat (first | exact Ext.refl' _ | assumption | apply Ext.ex' | apply Ext.al | apply Ext.drN | apply Ext.dr))) (hb.ext (by repeat (first | exact Ext.refl' _ | assumption | apply Ext.ex' | apply Ext.al | apply Ext.drN | apply Ext.dr)))) ?_
      rintro e w1 ⟨rfl, hb1⟩
      obtain ⟨x14, rfl⟩ := hb1.get
      clear hb1
      go_wp2_with fail
      refine Calls.mono (awake_any _) ?_
      rintro e w1 ⟨rfl, hb1⟩
      obtain ⟨x15, rfl⟩ := hb1.get
      clear hb1
      go_wp2
      go_ret
      exact ⟨rfl, by repeat (first | exact Ext.refl' _ | assumption | apply Ext.ex' | apply Ext.al | apply Ext.drN | apply Ext.dr)⟩

end Go.Proofs.Ytogfageapejmpaa
