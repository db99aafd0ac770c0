/- The walk of the law RegionAlgebra. -/
import Derived.Test.YtcnhnbdgmfhfgaaRgK
set_option linter.unusedSimpArgs false
set_option linter.unusedVariables false
namespace Go.Proofs.Ytcnhnbdgmfhfgaa
open Go.RowKit


set_option maxRecDepth 100000 in
set_option maxHeartbeats 8000000 in
theorem lawRAlgebra_any (A : Option Addr) (ca : Nat) (a : List Rct) (B : Option Addr) (cb : Nat) (b : List Rct) (C : Option Addr) (cc : Nat) (c : List Rct) (w : World) (ha : Rd w 4 A a.length (rcl a)) (hb : Rd w 4 B b.length (rcl b)) (hc : Rd w 4 C c.length (rcl c)) (na : a.length ≤ 9223372036854775807) (nb : b.length ≤ 9223372036854775807) (nc : c.length ≤ 9223372036854775807) :
    Calls Try.prog 4 #[.slice A a.length ca, .slice B b.length cb, .slice C c.length cc] w fun e w' => e = .returned (.bool true) ∧ Ext w w' := by
  by_cases ga : 12 < a.length
  · go_enter Try.func4, Try.ntmps4
    go_wp2_with fail
    refine Calls.mono (awakeR_any _) ?_
    rintro e w1 ⟨rfl, hb1⟩
    obtain ⟨x1, rfl⟩ := hb1.get
    clear hb1
    go_wp2
    go_ret
    exact ⟨rfl, by repeat (first | exact Ext.refl' _ | assumption | apply Ext.ex' | apply Ext.al | apply Ext.drN | apply Ext.dr)⟩
  by_cases gb : 12 < b.length
  · go_enter Try.func4, Try.ntmps4
    go_wp2_with fail
    refine Calls.mono (awakeR_any _) ?_
    rintro e w1 ⟨rfl, hb1⟩
    obtain ⟨x1, rfl⟩ := hb1.get
    clear hb1
    go_wp2
    go_ret
    exact ⟨rfl, by repeat (first | exact Ext.refl' _ | assumption | apply Ext.ex' | apply Ext.al | apply Ext.drN | apply Ext.dr)⟩
  by_cases gc : 12 < c.length
  · go_enter Try.func4, Try.ntmps4
    go_wp2_with fail
    refine Calls.mono (awakeR_any _) ?_
    rintro e w1 ⟨rfl, hb1⟩
    obtain ⟨x1, rfl⟩ := hb1.get
    clear hb1
    go_wp2
    go_ret
    exact ⟨rfl, by repeat (first | exact Ext.refl' _ | assumption | apply Ext.ex' | apply Ext.al | apply Ext.drN | apply Ext.dr)⟩
  have G1 := Lib.hid (fun w h1 h2 => gUnion_any A B ca cb a b w h1 h2 (by omega) (by omega))
  have G2 := Lib.hid (fun w h1 h2 => gIntersect_any A B ca cb a b w h1 h2 (by omega) (by omega))
  have G3 := Lib.hid (fun w h1 h2 => gUnion_any B A cb ca b a w h1 h2 (by omega) (by omega))
  have G4 := Lib.hid (fun w h1 h2 => gIntersect_any B A cb ca b a w h1 h2 (by omega) (by omega))
  have G5 := Lib.hid (fun w h1 h2 => gSubtract_any A B ca cb a b w h1 h2 (by omega) (by omega))
  have G6 := Lib.hid (fun w h => gofR_any A ca a w h (by omega))
  have G7 := Lib.hid (fun w h1 h2 => gUnion_any B C cb cc b c w h1 h2 (by omega) (by omega))
  have G8 := Lib.hid (fun w h1 h2 => gIntersect_any A C ca cc a c w h1 h2 (by omega) (by omega))
  have G9 := Lib.hid (fun w h1 h2 => gIntersect_any B C cb cc b c w h1 h2 (by omega) (by omega))
  rw [reg_comm (k := ofK) rfl (fun x y => Bool.or_comm x y) b a] at G3
  rw [reg_comm (k := interK) rfl (fun x y => Bool.and_comm x y) b a] at G4
  have b1 := regF_24 (k := ofK) (a := a) (b := b) (by omega) (by omega)
  have b2 := regF_24 (k := interK) (a := a) (b := b) (by omega) (by omega)
  have b3 := regF_24 (k := subK) (a := a) (b := b) (by omega) (by omega)
  have b4 := regF_24 (k := ofK) (a := a) (b := []) (by omega) (by simp)
  have b5 := regF_24 (k := ofK) (a := b) (b := c) (by omega) (by omega)
  have b6 := regF_24 (k := interK) (a := a) (b := c) (by omega) (by omega)
  have b7 := regF_24 (k := interK) (a := b) (b := c) (by omega) (by omega)
  have G10 := Lib.hid (fun A B ca cb w h1 h2 => gUnion_any A B ca cb (regF subK a b) (regF interK a b) w h1 h2 (by omega) (by omega))
  rw [reg_sub] at G10
  have G11 := Lib.hid (fun A ca w h1 h2 => gUnion_any A C ca cc (regF ofK a b) c w h1 h2 (by omega) (by omega))
  have G12 := Lib.hid (fun B cb w h1 h2 => gUnion_any A B ca cb a (regF ofK b c) w h1 h2 (by omega) (by omega))
  rw [reg_assoc] at G11
  have b8 := regF_big (k := ofK) (a := a) (b := regF ofK b c) (by omega) (by omega)
  have G13 := Lib.hid (fun A ca w h1 h2 => gIntersect_any A C ca cc (regF ofK a b) c w h1 h2 (by omega) (by omega))
  have G14 := Lib.hid (fun A B ca cb w h1 h2 => gUnion_any A B ca cb (regF interK a c) (regF interK b c) w h1 h2 (by omega) (by omega))
  rw [reg_dist] at G13
  have b9 := regF_big (k := ofK) (a := regF interK a c) (b := regF interK b c) (by omega) (by omega)
  generalize regF ofK (regF interK a c) (regF interK b c) = q1 at G13 G14 b9
  generalize regF ofK a (regF ofK b c) = q2 at G11 G12 b8
  generalize regF interK a c = q3 at G8 G14 b6
  generalize regF interK b c = q4 at G9 G14 b7
  generalize regF ofK b c = q5 at G7 G12 b5
  generalize regF ofK a b = q6 at G1 G3 G11 G13 b1
  generalize regF interK a b = q7 at G2 G4 G10 b2
  generalize regF subK a b = q8 at G5 G10 b3
  generalize regF ofK a [] = q9 at G6 G10 b4
  go_enter Try.func4, Try.ntmps4
  go_wp2_with fail
  refine Calls.mono (G1.out _ (ha.ext (by repeat (first | exact Ext.refl' _ | assumption | apply Ext.ex' | apply Ext.al | apply Ext.drN | apply Ext.dr))) (hb.ext (by repeat (first | exact Ext.refl' _ | assumption | apply Ext.ex' | apply Ext.al | apply Ext.drN | apply Ext.dr)))) ?_
  rintro e w1 ⟨A1, c1, rfl, hb1, hR1⟩
  obtain ⟨x1, rfl⟩ := hb1.get
  clear hb1
  go_wp2_with fail
  refine Calls.mono (G2.out _ (ha.ext (by repeat (first | exact Ext.refl' _ | assumption | apply Ext.ex' | apply Ext.al | apply Ext.drN | apply Ext.dr))) (hb.ext (by repeat (first | exact Ext.refl' _ | assumption | apply Ext.ex' | apply Ext.al | apply Ext.drN | apply Ext.dr)))) ?_
  rintro e w1 ⟨A2, c2, rfl, hb1, hR2⟩
  obtain ⟨x2, rfl⟩ := hb1.get
  clear hb1
  go_wp2_with fail
  refine Calls.mono (G3.out _ (hb.ext (by repeat (first | exact Ext.refl' _ | assumption | apply Ext.ex' | apply Ext.al | apply Ext.drN | apply Ext.dr))) (ha.ext (by repeat (first | exact Ext.refl' _ | assumption | apply Ext.ex' | apply Ext.al | apply Ext.drN | apply Ext.dr)))) ?_
  rintro e w1 ⟨A3, c3, rfl, hb1, hR3⟩
  obtain ⟨x3, rfl⟩ := hb1.get
  clear hb1
  go_wp2_with fail
  refine Calls.mono (sameR_yes _ _ _ _ _ _ q6 q6 rfl rfl rfl _ (hR1.ext (by repeat (first | exact Ext.refl' _ | assumption | apply Ext.ex' | apply Ext.al | apply Ext.drN | apply Ext.dr))) (hR3.ext (by repeat (first | exact Ext.refl' _ | assumption | apply Ext.ex' | apply Ext.al | apply Ext.drN | apply Ext.dr))) (by omega)) ?_
  rintro e w1 ⟨rfl, hb1⟩
  obtain ⟨x4, rfl⟩ := hb1.get
  clear hb1
  go_wp2_with fail
  refine Calls.mono (G4.out _ (hb.ext (by repeat (first | exact Ext.refl' _ | assumption | apply Ext.ex' | apply Ext.al | apply Ext.drN | apply Ext.dr))) (ha.ext (by repeat (first | exact Ext.refl' _ | assumption | apply Ext.ex' | apply Ext.al | apply Ext.drN | apply Ext.dr)))) ?_
  rintro e w1 ⟨A5, c5, rfl, hb1, hR5⟩
  obtain ⟨x5, rfl⟩ := hb1.get
  clear hb1
  go_wp2_with fail
  refine Calls.mono (sameR_yes _ _ _ _ _ _ q7 q7 rfl rfl rfl _ (hR2.ext (by repeat (first | exact Ext.refl' _ | assumption | apply Ext.ex' | apply Ext.al | apply Ext.drN | apply Ext.dr))) (hR5.ext (by repeat (first | exact Ext.refl' _ | assumption | apply Ext.ex' | apply Ext.al | apply Ext.drN | apply Ext.dr))) (by omega)) ?_
  rintro e w1 ⟨rfl, hb1⟩
  obtain ⟨x6, rfl⟩ := hb1.get
  clear hb1
  go_wp2_with fail
  refine Calls.mono (G5.out _ (ha.ext (by repeat (first | exact Ext.refl' _ | assumption | apply Ext.ex' | apply Ext.al | apply Ext.drN | apply Ext.dr))) (hb.ext (by repeat (first | exact Ext.refl' _ | assumption | apply Ext.ex' | apply Ext.al | apply Ext.drN | apply Ext.dr)))) ?_
  rintro e w1 ⟨A7, c7, rfl, hb1, hR7⟩
  obtain ⟨x7, rfl⟩ := hb1.get
  clear hb1
  go_wp2_with fail
  refine Calls.mono (G10.out _ _ _ _ _ (hR7.ext (by repeat (first | exact Ext.refl' _ | assumption | apply Ext.ex' | apply Ext.al | apply Ext.drN | apply Ext.dr))) (hR2.ext (by repeat (first | exact Ext.refl' _ | assumption | apply Ext.ex' | apply Ext.al | apply Ext.drN | apply Ext.dr)))) ?_
  rintro e w1 ⟨A8, c8, rfl, hb1, hR8⟩
  obtain ⟨x8, rfl⟩ := hb1.get
  clear hb1
  go_wp2_with fail
  refine Calls.mono (G6.out _ (ha.ext (by repeat (first | exact Ext.refl' _ | assumption | apply Ext.ex' | apply Ext.al | apply Ext.drN | apply Ext.dr)))) ?_
  rintro e w1 ⟨A9, c9, rfl, hb1, hR9⟩
  obtain ⟨x9, rfl⟩ := hb1.get
  clear hb1
  go_wp2_with fail
  refine Calls.mono (sameR_yes _ _ _ _ _ _ q9 q9 rfl rfl rfl _ (hR8.ext (by repeat (first | exact Ext.refl' _ | assumption | apply Ext.ex' | apply Ext.al | apply Ext.drN | apply Ext.dr))) (hR9.ext (by repeat (first | exact Ext.refl' _ | assumption | apply Ext.ex' | apply Ext.al | apply Ext.drN | apply Ext.dr))) (by omega)) ?_
  rintro e w1 ⟨rfl, hb1⟩
  obtain ⟨x10, rfl⟩ := hb1.get
  clear hb1
  go_wp2_with fail
  refine Calls.mono (G11.out _ _ _ (hR1.ext (by repeat (first | exact Ext.refl' _ | assumption | apply Ext.ex' | apply Ext.al | apply Ext.drN | apply Ext.dr))) (hc.ext (by repeat (first | exact Ext.refl' _ | assumption | apply Ext.ex' | apply Ext.al | apply Ext.drN | apply Ext.dr)))) ?_
  rintro e w1 ⟨A11, c11, rfl, hb1, hR11⟩
  obtain ⟨x11, rfl⟩ := hb1.get
  clear hb1
  go_wp2_with fail
  refine Calls.mono (G7.out _ (hb.ext (by repeat (first | exact Ext.refl' _ | assumption | apply Ext.ex' | apply Ext.al | apply Ext.drN | apply Ext.dr))) (hc.ext (by repeat (first | exact Ext.refl' _ | assumption | apply Ext.ex' | apply Ext.al | apply Ext.drN | apply Ext.dr)))) ?_
  rintro e w1 ⟨A12, c12, rfl, hb1, hR12⟩
  obtain ⟨x12, rfl⟩ := hb1.get
  clear hb1
  go_wp2_with fail
  refine Calls.mono (G12.out _ _ _ (ha.ext (by repeat (first | exact Ext.refl' _ | assumption | apply Ext.ex' | apply Ext.al | apply Ext.drN | apply Ext.dr))) (hR12.ext (by repeat (first | exact Ext.refl' _ | assumption | apply Ext.ex' | apply Ext.al | apply Ext.drN | apply Ext.dr)))) ?_
  rintro e w1 ⟨A13, c13, rfl, hb1, hR13⟩
  obtain ⟨x13, rfl⟩ := hb1.get
  clear hb1
  go_wp2_with fail
  refine Calls.mono (sameR_yes _ _ _ _ _ _ q2 q2 rfl rfl rfl _ (hR11.ext (by repeat (first | exact Ext.refl' _ | assumption | apply Ext.ex' | apply Ext.al | apply Ext.drN | apply Ext.dr))) (hR13.ext (by repeat (first | exact Ext.refl' _ | assumption | apply Ext.ex' | apply Ext.al | apply Ext.drN | apply Ext.dr))) (by omega)) ?_
  rintro e w1 ⟨rfl, hb1⟩
  obtain ⟨x14, rfl⟩ := hb1.get
  clear hb1
  go_wp2_with fail
  refine Calls.mono (G13.out _ _ _ (hR1.ext (by repeat (first | exact Ext.refl' _ | assumption | apply Ext.ex' | apply Ext.al | apply Ext.drN | apply Ext.dr))) (hc.ext (by repeat (first | exact Ext.refl' _ | assumption | apply Ext.ex' | apply Ext.al | apply Ext.drN | apply Ext.dr)))) ?_
  rintro e w1 ⟨A15, c15, rfl, hb1, hR15⟩
  obtain ⟨x15, rfl⟩ := hb1.get
  clear hb1
  go_wp2_with fail
  refine Calls.mono (G8.out _ (ha.ext (by repeat (first | exact Ext.refl' _ | assumption | apply Ext.ex' | apply Ext.al | apply Ext.drN | apply Ext.dr))) (hc.ext (by repeat (first | exact Ext.refl' _ | assumption | apply Ext.ex' | apply Ext.al | apply Ext.drN | apply Ext.dr)))) ?_
  rintro e w1 ⟨A16, c16, rfl, hb1, hR16⟩
  obtain ⟨x16, rfl⟩ := hb1.get
  clear hb1
  go_wp2_with fail
  refine Calls.mono (G9.out _ (hb.ext (by repeat (first | exact Ext.refl' _ | assumption | apply Ext.ex' | apply Ext.al | apply Ext.drN | apply Ext.dr))) (hc.ext (by repeat (first | exact Ext.refl' _ | assumption | apply Ext.ex' | apply Ext.al | apply Ext.drN | apply Ext.dr)))) ?_
  rintro e w1 ⟨A17, c17, rfl, hb1, hR17⟩
  obtain ⟨x17, rfl⟩ := hb1.get
  clear hb1
  go_wp2_with fail
  refine Calls.mono (G14.out _ _ _ _ _ (hR16.ext (by repeat (first | exact Ext.refl' _ | assumption | apply Ext.ex' | apply Ext.al | apply Ext.drN | apply Ext.dr))) (hR17.ext (by repeat (first | exact Ext.refl' _ | assumption | apply Ext.ex' | apply Ext.al | apply Ext.drN | apply Ext.dr)))) ?_
  rintro e w1 ⟨A18, c18, rfl, hb1, hR18⟩
  obtain ⟨x18, rfl⟩ := hb1.get
  clear hb1
  go_wp2_with fail
  refine Calls.mono (sameR_yes _ _ _ _ _ _ q1 q1 rfl rfl rfl _ (hR15.ext (by repeat (first | exact Ext.refl' _ | assumption | apply Ext.ex' | apply Ext.al | apply Ext.drN | apply Ext.dr))) (hR18.ext (by repeat (first | exact Ext.refl' _ | assumption | apply Ext.ex' | apply Ext.al | apply Ext.drN | apply Ext.dr))) (by omega)) ?_
  rintro e w1 ⟨rfl, hb1⟩
  obtain ⟨x19, rfl⟩ := hb1.get
  clear hb1
  go_wp2_with fail
  refine Calls.mono (awakeR_any _) ?_
  rintro e w1 ⟨rfl, hb1⟩
  obtain ⟨x20, rfl⟩ := hb1.get
  clear hb1
  go_wp2
  go_ret
  exact ⟨rfl, by repeat (first | exact Ext.refl' _ | assumption | apply Ext.ex' | apply Ext.al | apply Ext.drN | apply Ext.dr)⟩

end Go.Proofs.Ytcnhnbdgmfhfgaa
