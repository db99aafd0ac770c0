/- The walk of the law SpanLengths. -/
import Derived.Test.YtogfageapejmpaaSpG
set_option linter.unusedSimpArgs false
set_option linter.unusedVariables false
namespace Go.Proofs.Ytogfageapejmpaa
open Go.RowKit


theorem len_laws (a b : List (Int × Int)) : lenF (ofF (combF ofK a b)) + lenF (ofF (combF interK a b)) = lenF (ofF a) + lenF (ofF b) ∧ lenF (ofF (combF subK a b)) = lenF (ofF a) - lenF (ofF (combF interK a b)) ∧ (lenF (ofF a) = 0 ↔ (ofF a).length = 0) := by
  obtain ⟨n, hn⟩ : ∃ n : Nat, (n : Int) = 1099511627776 := ⟨1099511627776, rfl⟩
  have c : ∀ l, lenF (ofF l) = cnt (inL l) n := fun l => by
    rw [lenF_cnt (ofF_can l) hn]; exact cnt_congr n fun t _ _ => ofF_in l t
  have k : ∀ (g : Bool → Bool → Bool), cnt (inL (combF g a b)) n = cnt (fun t => g (inL a t) (inL b t)) n := fun g => cnt_congr n fun t h0 h1 => by
    rw [combF_in, decide_eq_true (by omega), Bool.true_and]
  refine ⟨?_, ?_, lenF_zero (ofF_can a)⟩
  · rw [c, c, c, c, k, k]; exact cnt_or (inL a) (inL b) n
  · rw [c, c, c, k, k]; exact cnt_sub (inL a) (inL b) n


set_option maxRecDepth 100000 in
set_option maxHeartbeats 8000000 in
theorem lawLengths_any (A : Option Addr) (ca : Nat) (a : List (Int × Int)) (B : Option Addr) (cb : Nat) (b : List (Int × Int)) (w : World) (ha : Rd w 2 A a.length (pc a)) (hb : Rd w 2 B b.length (pc b)) (na : a.length ≤ 9223372036854775807) (nb : b.length ≤ 9223372036854775807) :
    Calls Try.prog 5 #[.slice A a.length ca, .slice B b.length cb] w fun e w' => e = .returned (.bool true) ∧ Ext w w' := by

  by_cases ga : 30 < a.length
  · go_enter Try.func5, Try.ntmps5
    go_wp2_with fail
    refine Calls.mono (awake_any _) ?_
    rintro e w1 ⟨rfl, hb1⟩
    obtain ⟨x1, rfl⟩ := hb1.get
    clear hb1
    go_wp2
    go_ret
    exact ⟨rfl, by repeat (first | exact Ext.refl' _ | assumption | apply Ext.ex' | apply Ext.al | apply Ext.drN | apply Ext.dr)⟩
  · skip
    by_cases gb : 30 < b.length
    · go_enter Try.func5, Try.ntmps5
      go_wp2_with fail
      refine Calls.mono (awake_any _) ?_
      rintro e w1 ⟨rfl, hb1⟩
      obtain ⟨x1, rfl⟩ := hb1.get
      clear hb1
      go_wp2
      go_ret
      exact ⟨rfl, by repeat (first | exact Ext.refl' _ | assumption | apply Ext.ex' | apply Ext.al | apply Ext.drN | apply Ext.dr)⟩
    · skip
      have G1 := Lib.hid (fun w h => slength_any A ca a w h (by omega))
      have G2 := Lib.hid (fun w h => slength_any B cb b w h (by omega))
      have G3 := Lib.hid (fun w h1 h2 => sunion_any A B ca cb a b w h1 h2 (by omega) (by omega))
      have G4 := Lib.hid (fun w h1 h2 => sintersect_any A B ca cb a b w h1 h2 (by omega) (by omega))
      have G5 := Lib.hid (fun w h1 h2 => ssubtract_any A B ca cb a b w h1 h2 (by omega) (by omega))
      have G6 := Lib.hid (fun w h1 => sof_any A ca a w h1 (by omega))
      have b1 := can_short (combF_can ofK a b)
      have b2 := can_short (combF_can interK a b)
      have b3 := can_short (combF_can subK a b)
      have G7 := Lib.hid (fun A c w h => slength_any A c (combF ofK a b) w h (by omega))
      have G8 := Lib.hid (fun A c w h => slength_any A c (combF interK a b) w h (by omega))
      have G9 := Lib.hid (fun A c w h => slength_any A c (combF subK a b) w h (by omega))
      obtain ⟨q1, q2, q3⟩ := len_laws a b
      have d1 := lenF_bound (ofF_can a)
      have d2 := lenF_bound (ofF_can b)
      have d3 := lenF_bound (ofF_can (combF ofK a b))
      have d4 := lenF_bound (ofF_can (combF interK a b))
      have d5 := lenF_bound (ofF_can (combF subK a b))
      generalize lenF (ofF (combF ofK a b)) = lu at G7 q1 d3
      generalize lenF (ofF (combF interK a b)) = li at G8 q1 q2 d4
      generalize lenF (ofF (combF subK a b)) = ls at G9 q2 d5
      generalize lenF (ofF a) = na at G1 q1 q2 q3 d1
      generalize lenF (ofF b) = nb at G2 q1 d2
      generalize combF ofK a b = r1 at G3 G7 b1
      generalize combF interK a b = r2 at G4 G8 b2
      generalize combF subK a b = r3 at G5 G9 b3
      generalize ofF a = r0 at G6 q3
      have e1 : (lu + li == na + nb) = true := by simp [q1]
      have e2 : (ls == na - li) = true := by simp [q2]
      have e3 : ((na == 0) == ((r0.length : Int) == 0)) = true := by
        have : (na == 0) = ((r0.length : Int) == 0) := by
          rw [Bool.eq_iff_iff]; simp only [beq_iff_eq]
          exact ⟨fun h => by have := q3.1 h; omega, fun h => q3.2 (by omega)⟩
        rw [this]; simp
      clear q1 q2 q3
      obtain ⟨d11, d12⟩ := d1
      obtain ⟨d21, d22⟩ := d2
      obtain ⟨d31, d32⟩ := d3
      obtain ⟨d41, d42⟩ := d4
      obtain ⟨d51, d52⟩ := d5
      go_enter Try.func5, Try.ntmps5
      go_wp2_with fail
      refine Calls.mono (G1.out _ (ha.ext (by repeat (first | exact Ext.refl' _ | assumption | apply Ext.ex' | apply Ext.al | apply Ext.drN | apply Ext.dr)))) ?_
      rintro e w1 ⟨rfl, hb1⟩
      obtain ⟨x1, rfl⟩ := hb1.get
      clear hb1
      go_wp2_with fail
      refine Calls.mono (G3.out _ (ha.ext (by repeat (first | exact Ext.refl' _ | assumption | apply Ext.ex' | apply Ext.al | apply Ext.drN | apply Ext.dr))) (hb.ext (by repeat (first | exact Ext.refl' _ | assumption | apply Ext.ex' | apply Ext.al | apply Ext.drN | apply Ext.dr)))) ?_
      rintro e w1 ⟨A2, c2, rfl, hb1, hR2⟩
      obtain ⟨x2, rfl⟩ := hb1.get
      clear hb1
      go_wp2_with fail
      refine Calls.mono (G7.out _ _ _ (hR2.ext (by repeat (first | exact Ext.refl' _ | assumption | apply Ext.ex' | apply Ext.al | apply Ext.drN | apply Ext.dr)))) ?_
      rintro e w1 ⟨rfl, hb1⟩
      obtain ⟨x3, rfl⟩ := hb1.get
      clear hb1
      go_wp2_with fail
      refine Calls.mono (G4.out _ (ha.ext (by repeat (first | exact Ext.refl' _ | assumption | apply Ext.ex' | apply Ext.al | apply Ext.drN | apply Ext.dr))) (hb.ext (by repeat (first | exact Ext.refl' _ | assumption | apply Ext.ex' | apply Ext.al | apply Ext.drN | apply Ext.dr)))) ?_
      rintro e w1 ⟨A4, c4, rfl, hb1, hR4⟩
      obtain ⟨x4, rfl⟩ := hb1.get
      clear hb1
      go_wp2_with fail
      refine Calls.mono (G8.out _ _ _ (hR4.ext (by repeat (first | exact Ext.refl' _ | assumption | apply Ext.ex' | apply Ext.al | apply Ext.drN | apply Ext.dr)))) ?_
      rintro e w1 ⟨rfl, hb1⟩
      obtain ⟨x5, rfl⟩ := hb1.get
      clear hb1
      go_wp2_with fail
      refine Calls.mono (G2.out _ (hb.ext (by repeat (first | exact Ext.refl' _ | assumption | apply Ext.ex' | apply Ext.al | apply Ext.drN | apply Ext.dr)))) ?_
      rintro e w1 ⟨rfl, hb1⟩
      obtain ⟨x6, rfl⟩ := hb1.get
      clear hb1
      go_wp2_with fail
      refine Calls.mono (G5.out _ (ha.ext (by repeat (first | exact Ext.refl' _ | assumption | apply Ext.ex' | apply Ext.al | apply Ext.drN | apply Ext.dr))) (hb.ext (by repeat (first | exact Ext.refl' _ | assumption | apply Ext.ex' | apply Ext.al | apply Ext.drN | apply Ext.dr)))) ?_
      rintro e w1 ⟨A7, c7, rfl, hb1, hR7⟩
      obtain ⟨x7, rfl⟩ := hb1.get
      clear hb1
      go_wp2_with fail
      refine Calls.mono (G9.out _ _ _ (hR7.ext (by repeat (first | exact Ext.refl' _ | assumption | apply Ext.ex' | apply Ext.al | apply Ext.drN | apply Ext.dr)))) ?_
      rintro e w1 ⟨rfl, hb1⟩
      obtain ⟨x8, rfl⟩ := hb1.get
      clear hb1
      go_wp2_with fail
      refine Calls.mono (G4.out _ (ha.ext (by repeat (first | exact Ext.refl' _ | assumption | apply Ext.ex' | apply Ext.al | apply Ext.drN | apply Ext.dr))) (hb.ext (by repeat (first | exact Ext.refl' _ | assumption | apply Ext.ex' | apply Ext.al | apply Ext.drN | apply Ext.dr)))) ?_
      rintro e w1 ⟨A9, c9, rfl, hb1, hR9⟩
      obtain ⟨x9, rfl⟩ := hb1.get
      clear hb1
      go_wp2_with fail
      refine Calls.mono (G8.out _ _ _ (hR9.ext (by repeat (first | exact Ext.refl' _ | assumption | apply Ext.ex' | apply Ext.al | apply Ext.drN | apply Ext.dr)))) ?_
      rintro e w1 ⟨rfl, hb1⟩
      obtain ⟨x10, rfl⟩ := hb1.get
      clear hb1
      go_wp2_with fail
      refine Calls.mono (G6.out _ (ha.ext (by repeat (first | exact Ext.refl' _ | assumption | apply Ext.ex' | apply Ext.al | apply Ext.drN | apply Ext.dr)))) ?_
      rintro e w1 ⟨A11, c11, rfl, hb1, hR11⟩
      obtain ⟨x11, rfl⟩ := hb1.get
      clear hb1
      go_wp2_with fail
      refine Calls.mono (awake_any _) ?_
      rintro e w1 ⟨rfl, hb1⟩
      obtain ⟨x12, rfl⟩ := hb1.get
      clear hb1
      go_wp2
      go_ret
      exact ⟨rfl, by repeat (first | exact Ext.refl' _ | assumption | apply Ext.ex' | apply Ext.al | apply Ext.drN | apply Ext.dr)⟩

end Go.Proofs.Ytogfageapejmpaa
