/- The walk of the law RegionSlices. -/
import Derived.Test.YtcnhnbdgmfhfgaaRgK
set_option linter.unusedSimpArgs false
set_option linter.unusedVariables false
namespace Go.Proofs.Ytcnhnbdgmfhfgaa
open Go.RowKit


set_option maxRecDepth 100000 in
set_option maxHeartbeats 8000000 in
theorem lawRSlices_any (A : Option Addr) (ca : Nat) (a : List Rct) (B : Option Addr) (cb : Nat) (b : List Rct) (t : Int) (w : World) (ha : Rd w 4 A a.length (rcl a)) (hb : Rd w 4 B b.length (rcl b)) (na : a.length ≤ 9223372036854775807) (nb : b.length ≤ 9223372036854775807) :
    Calls Try.prog 5 #[.slice A a.length ca, .slice B b.length cb, .int .i64 t] w fun e w' => e = .returned (.bool true) ∧ Ext w w' := by
  by_cases ga : 12 < a.length
  · go_enter Try.func5, Try.ntmps5
    go_wp2_with fail
    refine Calls.mono (awakeR_any _) ?_
    rintro e w1 ⟨rfl, hb1⟩
    obtain ⟨x1, rfl⟩ := hb1.get
    clear hb1
    go_wp2
    go_ret
    exact ⟨rfl, by repeat (first | exact Ext.refl' _ | assumption | apply Ext.ex' | apply Ext.al | apply Ext.drN | apply Ext.dr)⟩
  by_cases gb : 12 < b.length
  · go_enter Try.func5, Try.ntmps5
    go_wp2_with fail
    refine Calls.mono (awakeR_any _) ?_
    rintro e w1 ⟨rfl, hb1⟩
    obtain ⟨x1, rfl⟩ := hb1.get
    clear hb1
    go_wp2
    go_ret
    exact ⟨rfl, by repeat (first | exact Ext.refl' _ | assumption | apply Ext.ex' | apply Ext.al | apply Ext.drN | apply Ext.dr)⟩
  have G1 := Lib.hid (fun w h1 h2 => gUnion_any A B ca cb a b w h1 h2 (by omega) (by omega))
  have G2 := Lib.hid (fun w h1 h2 => gIntersect_any A B ca cb a b w h1 h2 (by omega) (by omega))
  have G3 := Lib.hid (fun w h1 h2 => gSubtract_any A B ca cb a b w h1 h2 (by omega) (by omega))
  have b1 := regF_24 (k := ofK) (a := a) (b := b) (by omega) (by omega)
  have b2 := regF_24 (k := interK) (a := a) (b := b) (by omega) (by omega)
  have b3 := regF_24 (k := subK) (a := a) (b := b) (by omega) (by omega)
  have G10 := Lib.hid (fun w h => gsliceS_any A ca a t w h (by omega))
  have G11 := Lib.hid (fun w h => gsliceS_any B cb b t w h (by omega))
  have d10 := can_short (ofF_can (sliR a t))
  have d11 := can_short (ofF_can (sliR b t))
  have G12 := Lib.hid (fun A c w h => gsliceS_any A c (regF ofK a b) t w h (by omega))
  rw [sli_comb rfl] at G12
  have G15 := Lib.hid (fun A B ca cb w h1 h2 => runion_any A B ca cb (ofF (sliR a t)) (ofF (sliR b t)) w h1 h2 (by omega) (by omega))
  have d12 := can_short (combF_can ofK (ofF (sliR a t)) (ofF (sliR b t)))
  have G13 := Lib.hid (fun A c w h => gsliceS_any A c (regF interK a b) t w h (by omega))
  rw [sli_comb rfl] at G13
  have G16 := Lib.hid (fun A B ca cb w h1 h2 => rintersect_any A B ca cb (ofF (sliR a t)) (ofF (sliR b t)) w h1 h2 (by omega) (by omega))
  have d13 := can_short (combF_can interK (ofF (sliR a t)) (ofF (sliR b t)))
  have G14 := Lib.hid (fun A c w h => gsliceS_any A c (regF subK a b) t w h (by omega))
  rw [sli_comb rfl] at G14
  have G17 := Lib.hid (fun A B ca cb w h1 h2 => rsubtract_any A B ca cb (ofF (sliR a t)) (ofF (sliR b t)) w h1 h2 (by omega) (by omega))
  have d14 := can_short (combF_can subK (ofF (sliR a t)) (ofF (sliR b t)))
  have G20 := Lib.hid (fun w h => gsection_any A ca a t w h (by omega))
  have G21 := Lib.hid (fun w h => gsection_any B cb b t w h (by omega))
  have d20 := can_short (ofF_can (secR a t))
  have d21 := can_short (ofF_can (secR b t))
  have G22 := Lib.hid (fun A c w h => gsection_any A c (regF ofK a b) t w h (by omega))
  rw [sec_comb rfl] at G22
  have G25 := Lib.hid (fun A B ca cb w h1 h2 => runion_any A B ca cb (ofF (secR a t)) (ofF (secR b t)) w h1 h2 (by omega) (by omega))
  have d22 := can_short (combF_can ofK (ofF (secR a t)) (ofF (secR b t)))
  have G23 := Lib.hid (fun A c w h => gsection_any A c (regF interK a b) t w h (by omega))
  rw [sec_comb rfl] at G23
  have G26 := Lib.hid (fun A B ca cb w h1 h2 => rintersect_any A B ca cb (ofF (secR a t)) (ofF (secR b t)) w h1 h2 (by omega) (by omega))
  have d23 := can_short (combF_can interK (ofF (secR a t)) (ofF (secR b t)))
  have G24 := Lib.hid (fun A c w h => gsection_any A c (regF subK a b) t w h (by omega))
  rw [sec_comb rfl] at G24
  have G27 := Lib.hid (fun A B ca cb w h1 h2 => rsubtract_any A B ca cb (ofF (secR a t)) (ofF (secR b t)) w h1 h2 (by omega) (by omega))
  have d24 := can_short (combF_can subK (ofF (secR a t)) (ofF (secR b t)))
  generalize combF ofK (ofF (sliR a t)) (ofF (sliR b t)) = s12 at G12 G15 d12
  generalize combF interK (ofF (sliR a t)) (ofF (sliR b t)) = s13 at G13 G16 d13
  generalize combF subK (ofF (sliR a t)) (ofF (sliR b t)) = s14 at G14 G17 d14
  generalize ofF (sliR a t) = s10 at G10 G15 G16 G17 d10
  generalize ofF (sliR b t) = s11 at G11 G15 G16 G17 d11
  generalize combF ofK (ofF (secR a t)) (ofF (secR b t)) = s22 at G22 G25 d22
  generalize combF interK (ofF (secR a t)) (ofF (secR b t)) = s23 at G23 G26 d23
  generalize combF subK (ofF (secR a t)) (ofF (secR b t)) = s24 at G24 G27 d24
  generalize ofF (secR a t) = s20 at G20 G25 G26 G27 d20
  generalize ofF (secR b t) = s21 at G21 G25 G26 G27 d21
  generalize regF ofK a b = q1 at G1 G12 G22 b1
  generalize regF interK a b = q2 at G2 G13 G23 b2
  generalize regF subK a b = q3 at G3 G14 G24 b3
  go_enter Try.func5, Try.ntmps5
  go_wp2_with fail
  refine Calls.mono (G1.out _ (ha.ext (by repeat (first | exact Ext.refl' _ | assumption | apply Ext.ex' | apply Ext.al | apply Ext.drN | apply Ext.dr))) (hb.ext (by repeat (first | exact Ext.refl' _ | assumption | apply Ext.ex' | apply Ext.al | apply Ext.drN | apply Ext.dr)))) ?_
  rintro e w1 ⟨A1, c1, rfl, hb1, hR1⟩
  obtain ⟨x1, rfl⟩ := hb1.get
  clear hb1
  go_wp2_with fail
  refine Calls.mono (G2.out _ (ha.ext (by repeat (first | exact Ext.refl' _ | assumption | apply Ext.ex' | apply Ext.al | apply Ext.drN | apply Ext.dr))) (hb.ext (by repeat (first | exact Ext.refl' _ | assumption | apply Ext.ex' | apply Ext.al | apply Ext.drN | apply Ext.dr)))) ?_
  rintro e w1 ⟨A2, c2, rfl, hb1, hR2⟩
  obtain ⟨x2, rfl⟩ := hb1.get
  clear hb1
  go_wp2_with fail
  refine Calls.mono (G3.out _ (ha.ext (by repeat (first | exact Ext.refl' _ | assumption | apply Ext.ex' | apply Ext.al | apply Ext.drN | apply Ext.dr))) (hb.ext (by repeat (first | exact Ext.refl' _ | assumption | apply Ext.ex' | apply Ext.al | apply Ext.drN | apply Ext.dr)))) ?_
  rintro e w1 ⟨A3, c3, rfl, hb1, hR3⟩
  obtain ⟨x3, rfl⟩ := hb1.get
  clear hb1
  go_wp2_with fail
  refine Calls.mono (G10.out _ (ha.ext (by repeat (first | exact Ext.refl' _ | assumption | apply Ext.ex' | apply Ext.al | apply Ext.drN | apply Ext.dr)))) ?_
  rintro e w1 ⟨A10, c10, rfl, hb1, hR10⟩
  obtain ⟨x10, rfl⟩ := hb1.get
  clear hb1
  go_wp2_with fail
  refine Calls.mono (G11.out _ (hb.ext (by repeat (first | exact Ext.refl' _ | assumption | apply Ext.ex' | apply Ext.al | apply Ext.drN | apply Ext.dr)))) ?_
  rintro e w1 ⟨A11, c11, rfl, hb1, hR11⟩
  obtain ⟨x11, rfl⟩ := hb1.get
  clear hb1
  go_wp2_with fail
  refine Calls.mono (G12.out _ _ _ (hR1.ext (by repeat (first | exact Ext.refl' _ | assumption | apply Ext.ex' | apply Ext.al | apply Ext.drN | apply Ext.dr)))) ?_
  rintro e w1 ⟨A12p, c12p, rfl, hb1, hR12p⟩
  obtain ⟨x12p, rfl⟩ := hb1.get
  clear hb1
  go_wp2_with fail
  refine Calls.mono (G15.out _ _ _ _ _ (hR10.ext (by repeat (first | exact Ext.refl' _ | assumption | apply Ext.ex' | apply Ext.al | apply Ext.drN | apply Ext.dr))) (hR11.ext (by repeat (first | exact Ext.refl' _ | assumption | apply Ext.ex' | apply Ext.al | apply Ext.drN | apply Ext.dr)))) ?_
  rintro e w1 ⟨A12r, c12r, rfl, hb1, hR12r⟩
  obtain ⟨x12r, rfl⟩ := hb1.get
  clear hb1
  go_wp2_with fail
  refine Calls.mono (same_yesP _ _ _ _ _ _ s12 s12 rfl rfl rfl _ (hR12p.ext (by repeat (first | exact Ext.refl' _ | assumption | apply Ext.ex' | apply Ext.al | apply Ext.drN | apply Ext.dr))) (hR12r.ext (by repeat (first | exact Ext.refl' _ | assumption | apply Ext.ex' | apply Ext.al | apply Ext.drN | apply Ext.dr))) (by omega)) ?_
  rintro e w1 ⟨rfl, hb1⟩
  obtain ⟨x12s, rfl⟩ := hb1.get
  clear hb1
  go_wp2_with fail
  refine Calls.mono (G13.out _ _ _ (hR2.ext (by repeat (first | exact Ext.refl' _ | assumption | apply Ext.ex' | apply Ext.al | apply Ext.drN | apply Ext.dr)))) ?_
  rintro e w1 ⟨A13p, c13p, rfl, hb1, hR13p⟩
  obtain ⟨x13p, rfl⟩ := hb1.get
  clear hb1
  go_wp2_with fail
  refine Calls.mono (G16.out _ _ _ _ _ (hR10.ext (by repeat (first | exact Ext.refl' _ | assumption | apply Ext.ex' | apply Ext.al | apply Ext.drN | apply Ext.dr))) (hR11.ext (by repeat (first | exact Ext.refl' _ | assumption | apply Ext.ex' | apply Ext.al | apply Ext.drN | apply Ext.dr)))) ?_
  rintro e w1 ⟨A13r, c13r, rfl, hb1, hR13r⟩
  obtain ⟨x13r, rfl⟩ := hb1.get
  clear hb1
  go_wp2_with fail
  refine Calls.mono (same_yesP _ _ _ _ _ _ s13 s13 rfl rfl rfl _ (hR13p.ext (by repeat (first | exact Ext.refl' _ | assumption | apply Ext.ex' | apply Ext.al | apply Ext.drN | apply Ext.dr))) (hR13r.ext (by repeat (first | exact Ext.refl' _ | assumption | apply Ext.ex' | apply Ext.al | apply Ext.drN | apply Ext.dr))) (by omega)) ?_
  rintro e w1 ⟨rfl, hb1⟩
  obtain ⟨x13s, rfl⟩ := hb1.get
  clear hb1
  go_wp2_with fail
  refine Calls.mono (G14.out _ _ _ (hR3.ext (by repeat (first | exact Ext.refl' _ | assumption | apply Ext.ex' | apply Ext.al | apply Ext.drN | apply Ext.dr)))) ?_
  rintro e w1 ⟨A14p, c14p, rfl, hb1, hR14p⟩
  obtain ⟨x14p, rfl⟩ := hb1.get
  clear hb1
  go_wp2_with fail
  refine Calls.mono (G17.out _ _ _ _ _ (hR10.ext (by repeat (first | exact Ext.refl' _ | assumption | apply Ext.ex' | apply Ext.al | apply Ext.drN | apply Ext.dr))) (hR11.ext (by repeat (first | exact Ext.refl' _ | assumption | apply Ext.ex' | apply Ext.al | apply Ext.drN | apply Ext.dr)))) ?_
  rintro e w1 ⟨A14r, c14r, rfl, hb1, hR14r⟩
  obtain ⟨x14r, rfl⟩ := hb1.get
  clear hb1
  go_wp2_with fail
  refine Calls.mono (same_yesP _ _ _ _ _ _ s14 s14 rfl rfl rfl _ (hR14p.ext (by repeat (first | exact Ext.refl' _ | assumption | apply Ext.ex' | apply Ext.al | apply Ext.drN | apply Ext.dr))) (hR14r.ext (by repeat (first | exact Ext.refl' _ | assumption | apply Ext.ex' | apply Ext.al | apply Ext.drN | apply Ext.dr))) (by omega)) ?_
  rintro e w1 ⟨rfl, hb1⟩
  obtain ⟨x14s, rfl⟩ := hb1.get
  clear hb1
  go_wp2_with fail
  refine Calls.mono (G20.out _ (ha.ext (by repeat (first | exact Ext.refl' _ | assumption | apply Ext.ex' | apply Ext.al | apply Ext.drN | apply Ext.dr)))) ?_
  rintro e w1 ⟨A20, c20, rfl, hb1, hR20⟩
  obtain ⟨x20, rfl⟩ := hb1.get
  clear hb1
  go_wp2_with fail
  refine Calls.mono (G21.out _ (hb.ext (by repeat (first | exact Ext.refl' _ | assumption | apply Ext.ex' | apply Ext.al | apply Ext.drN | apply Ext.dr)))) ?_
  rintro e w1 ⟨A21, c21, rfl, hb1, hR21⟩
  obtain ⟨x21, rfl⟩ := hb1.get
  clear hb1
  go_wp2_with fail
  refine Calls.mono (G22.out _ _ _ (hR1.ext (by repeat (first | exact Ext.refl' _ | assumption | apply Ext.ex' | apply Ext.al | apply Ext.drN | apply Ext.dr)))) ?_
  rintro e w1 ⟨A22p, c22p, rfl, hb1, hR22p⟩
  obtain ⟨x22p, rfl⟩ := hb1.get
  clear hb1
  go_wp2_with fail
  refine Calls.mono (G25.out _ _ _ _ _ (hR20.ext (by repeat (first | exact Ext.refl' _ | assumption | apply Ext.ex' | apply Ext.al | apply Ext.drN | apply Ext.dr))) (hR21.ext (by repeat (first | exact Ext.refl' _ | assumption | apply Ext.ex' | apply Ext.al | apply Ext.drN | apply Ext.dr)))) ?_
  rintro e w1 ⟨A22r, c22r, rfl, hb1, hR22r⟩
  obtain ⟨x22r, rfl⟩ := hb1.get
  clear hb1
  go_wp2_with fail
  refine Calls.mono (same_yesP _ _ _ _ _ _ s22 s22 rfl rfl rfl _ (hR22p.ext (by repeat (first | exact Ext.refl' _ | assumption | apply Ext.ex' | apply Ext.al | apply Ext.drN | apply Ext.dr))) (hR22r.ext (by repeat (first | exact Ext.refl' _ | assumption | apply Ext.ex' | apply Ext.al | apply Ext.drN | apply Ext.dr))) (by omega)) ?_
  rintro e w1 ⟨rfl, hb1⟩
  obtain ⟨x22s, rfl⟩ := hb1.get
  clear hb1
  go_wp2_with fail
  refine Calls.mono (G23.out _ _ _ (hR2.ext (by repeat (first | exact Ext.refl' _ | assumption | apply Ext.ex' | apply Ext.al | apply Ext.drN | apply Ext.dr)))) ?_
  rintro e w1 ⟨A23p, c23p, rfl, hb1, hR23p⟩
  obtain ⟨x23p, rfl⟩ := hb1.get
  clear hb1
  go_wp2_with fail
  refine Calls.mono (G26.out _ _ _ _ _ (hR20.ext (by repeat (first | exact Ext.refl' _ | assumption | apply Ext.ex' | apply Ext.al | apply Ext.drN | apply Ext.dr))) (hR21.ext (by repeat (first | exact Ext.refl' _ | assumption | apply Ext.ex' | apply Ext.al | apply Ext.drN | apply Ext.dr)))) ?_
  rintro e w1 ⟨A23r, c23r, rfl, hb1, hR23r⟩
  obtain ⟨x23r, rfl⟩ := hb1.get
  clear hb1
  go_wp2_with fail
  refine Calls.mono (same_yesP _ _ _ _ _ _ s23 s23 rfl rfl rfl _ (hR23p.ext (by repeat (first | exact Ext.refl' _ | assumption | apply Ext.ex' | apply Ext.al | apply Ext.drN | apply Ext.dr))) (hR23r.ext (by repeat (first | exact Ext.refl' _ | assumption | apply Ext.ex' | apply Ext.al | apply Ext.drN | apply Ext.dr))) (by omega)) ?_
  rintro e w1 ⟨rfl, hb1⟩
  obtain ⟨x23s, rfl⟩ := hb1.get
  clear hb1
  go_wp2_with fail
  refine Calls.mono (G24.out _ _ _ (hR3.ext (by repeat (first | exact Ext.refl' _ | assumption | apply Ext.ex' | apply Ext.al | apply Ext.drN | apply Ext.dr)))) ?_
  rintro e w1 ⟨A24p, c24p, rfl, hb1, hR24p⟩
  obtain ⟨x24p, rfl⟩ := hb1.get
  clear hb1
  go_wp2_with fail
  refine Calls.mono (G27.out _ _ _ _ _ (hR20.ext (by repeat (first | exact Ext.refl' _ | assumption | apply Ext.ex' | apply Ext.al | apply Ext.drN | apply Ext.dr))) (hR21.ext (by repeat (first | exact Ext.refl' _ | assumption | apply Ext.ex' | apply Ext.al | apply Ext.drN | apply Ext.dr)))) ?_
  rintro e w1 ⟨A24r, c24r, rfl, hb1, hR24r⟩
  obtain ⟨x24r, rfl⟩ := hb1.get
  clear hb1
  go_wp2_with fail
  refine Calls.mono (same_yesP _ _ _ _ _ _ s24 s24 rfl rfl rfl _ (hR24p.ext (by repeat (first | exact Ext.refl' _ | assumption | apply Ext.ex' | apply Ext.al | apply Ext.drN | apply Ext.dr))) (hR24r.ext (by repeat (first | exact Ext.refl' _ | assumption | apply Ext.ex' | apply Ext.al | apply Ext.drN | apply Ext.dr))) (by omega)) ?_
  rintro e w1 ⟨rfl, hb1⟩
  obtain ⟨x24s, rfl⟩ := hb1.get
  clear hb1
  go_wp2_with fail
  refine Calls.mono (awakeR_any _) ?_
  rintro e w1 ⟨rfl, hb1⟩
  obtain ⟨x99, rfl⟩ := hb1.get
  clear hb1
  go_wp2
  go_ret
  exact ⟨rfl, by repeat (first | exact Ext.refl' _ | assumption | apply Ext.ex' | apply Ext.al | apply Ext.drN | apply Ext.dr)⟩

end Go.Proofs.Ytcnhnbdgmfhfgaa
