/- The walk of the law RetentionComplete. -/
import Derived.Test.YtccndjnaakmlkaaGreatRtI
set_option linter.unusedSimpArgs false
set_option linter.unusedVariables false
namespace Go.Proofs.YtccndjnaakmlkaaGreat
open Go.RowKit


theorem cmp_keep {h : Int} {hs : List Rct} {r : Rct} {v t : Int} (hc : cmpB h hs r = true) (hin : inR [r] v t = true) : keepB h hs v t = true := by
  unfold cmpB at hc
  rw [Bool.and_eq_true, decide_eq_true_eq] at hc
  exact complete_in (List.eq_nil_of_length_eq_zero hc.2) hin
set_option maxRecDepth 100000 in
set_option maxHeartbeats 8000000 in
theorem lawComplete_any (LA HA : Option Addr) (lc hc : Nat) (Z : List VP) (hs : List Rct) (h la : Int) (r : Rct) (v t : Int) (w : World) (hl : Rd w 9 LA Z.length (verc (vsOf Z))) (hz : ∀ z ∈ Z, VerIs w z.1 z.2) (hh : Rd w 4 HA hs.length (rcl hs)) (nl : Z.length ≤ 9223372036854775807) (nh : hs.length ≤ 9223372036854775807) (nr : ∀ z ∈ Z, z.1.rn ≤ 9223372036854775807) :
    Calls Tryz.prog 5 #[.agg #[.slice LA Z.length lc, .int .i64 h, .int .i64 la, .slice HA hs.length hc, .int .i64 r.1.1, .int .i64 r.1.2, .int .i64 r.2.1, .int .i64 r.2.2, .int .i64 v, .int .i64 t]] w fun e w' => e = .returned (.bool true) ∧ Ext w w' := by
  have HL := Lib.hid (fun w => rlargeZ_any none HA 0 hc [] hs w Rd.nil (by simp) nh (by simp))
  rcases hlg : largeB (vsOf []) hs with _ | _
  · obtain ⟨_, nh', _⟩ := large_no hlg
    rw [hlg] at HL
    clear hlg
    have HC1 := Lib.hid (fun w h1 => tcomplete_any h HA hc hs r w h1 nh')
    have HC2 := Lib.hid (fun w h1 => rcomplete33_any h HA hc hs r w h1 nh')
    have HI := Lib.hid (fun w => rin_any r v t w)
    have HK := Lib.hid (fun w h1 => rkeep_any h HA hc hs v t w h1 nh)
    have hck : cmpB h hs r = true → inR [r] v t = true → keepB h hs v t = true := cmp_keep
    generalize cmpB h hs r = c at HC1 HC2 hck
    generalize inR [r] v t = p at HI hck
    generalize keepB h hs v t = q at HK hck
    rcases c with _ | _
    · clear hck
      go_enter Tryz.func5, Tryz.ntmps5
      go_wp2_with (first | (go_at_call 7; refine (HL.out _).mono ?_; rintro e w1 ⟨rfl, hb1⟩; obtain ⟨xl, rfl⟩ := hb1.get; clear hb1) | (go_at_call 13; refine (HC1.out _ (hh.ext (by repeat (first | exact Ext.refl' _ | assumption | apply Ext.ex' | apply Ext.al | apply Ext.drN | apply Ext.dr)))).mono ?_; rintro e w1 ⟨rfl, hb1⟩; obtain ⟨x1, rfl⟩ := hb1.get; clear hb1) | (go_at_call 14; refine (HC2.out _ (hh.ext (by repeat (first | exact Ext.refl' _ | assumption | apply Ext.ex' | apply Ext.al | apply Ext.drN | apply Ext.dr)))).mono ?_; rintro e w1 ⟨rfl, hb1⟩; obtain ⟨x2, rfl⟩ := hb1.get; clear hb1) | (go_at_call 8; refine (awake33_any _).mono ?_; rintro e w1 ⟨rfl, hb1⟩; obtain ⟨xaw, rfl⟩ := hb1.get; clear hb1))
      go_ret
      exact ⟨rfl, by repeat (first | exact Ext.refl' _ | assumption | apply Ext.ex' | apply Ext.al | apply Ext.drN | apply Ext.dr)⟩
    · rcases p with _ | _
      · clear hck
        go_enter Tryz.func5, Tryz.ntmps5
        go_wp2_with (first | (go_at_call 7; refine (HL.out _).mono ?_; rintro e w1 ⟨rfl, hb1⟩; obtain ⟨xl, rfl⟩ := hb1.get; clear hb1) | (go_at_call 13; refine (HC1.out _ (hh.ext (by repeat (first | exact Ext.refl' _ | assumption | apply Ext.ex' | apply Ext.al | apply Ext.drN | apply Ext.dr)))).mono ?_; rintro e w1 ⟨rfl, hb1⟩; obtain ⟨x1, rfl⟩ := hb1.get; clear hb1) | (go_at_call 14; refine (HC2.out _ (hh.ext (by repeat (first | exact Ext.refl' _ | assumption | apply Ext.ex' | apply Ext.al | apply Ext.drN | apply Ext.dr)))).mono ?_; rintro e w1 ⟨rfl, hb1⟩; obtain ⟨x2, rfl⟩ := hb1.get; clear hb1) | (go_at_call 15; refine (HI.out _).mono ?_; rintro e w1 ⟨rfl, hb1⟩; obtain ⟨x3, rfl⟩ := hb1.get; clear hb1) | (go_at_call 8; refine (awake33_any _).mono ?_; rintro e w1 ⟨rfl, hb1⟩; obtain ⟨xaw, rfl⟩ := hb1.get; clear hb1))
        go_ret
        exact ⟨rfl, by repeat (first | exact Ext.refl' _ | assumption | apply Ext.ex' | apply Ext.al | apply Ext.drN | apply Ext.dr)⟩
      · obtain rfl := hck rfl rfl
        clear hck
        go_enter Tryz.func5, Tryz.ntmps5
        go_wp2_with (first | (go_at_call 7; refine (HL.out _).mono ?_; rintro e w1 ⟨rfl, hb1⟩; obtain ⟨xl, rfl⟩ := hb1.get; clear hb1) | (go_at_call 13; refine (HC1.out _ (hh.ext (by repeat (first | exact Ext.refl' _ | assumption | apply Ext.ex' | apply Ext.al | apply Ext.drN | apply Ext.dr)))).mono ?_; rintro e w1 ⟨rfl, hb1⟩; obtain ⟨x1, rfl⟩ := hb1.get; clear hb1) | (go_at_call 14; refine (HC2.out _ (hh.ext (by repeat (first | exact Ext.refl' _ | assumption | apply Ext.ex' | apply Ext.al | apply Ext.drN | apply Ext.dr)))).mono ?_; rintro e w1 ⟨rfl, hb1⟩; obtain ⟨x2, rfl⟩ := hb1.get; clear hb1) | (go_at_call 15; refine (HI.out _).mono ?_; rintro e w1 ⟨rfl, hb1⟩; obtain ⟨x3, rfl⟩ := hb1.get; clear hb1) | (go_at_call 16; refine (HK.out _ (hh.ext (by repeat (first | exact Ext.refl' _ | assumption | apply Ext.ex' | apply Ext.al | apply Ext.drN | apply Ext.dr)))).mono ?_; rintro e w1 ⟨rfl, hb1⟩; obtain ⟨x4, rfl⟩ := hb1.get; clear hb1) | (go_at_call 8; refine (awake33_any _).mono ?_; rintro e w1 ⟨rfl, hb1⟩; obtain ⟨xaw, rfl⟩ := hb1.get; clear hb1))
        go_ret
        exact ⟨rfl, by repeat (first | exact Ext.refl' _ | assumption | apply Ext.ex' | apply Ext.al | apply Ext.drN | apply Ext.dr)⟩
  · rw [hlg] at HL
    clear hlg
    go_enter Tryz.func5, Tryz.ntmps5
    go_wp2_with (first | (go_at_call 7; refine (HL.out _).mono ?_; rintro e w1 ⟨rfl, hb1⟩; obtain ⟨xl, rfl⟩ := hb1.get; clear hb1) | (go_at_call 8; refine (awake33_any _).mono ?_; rintro e w1 ⟨rfl, hb1⟩; obtain ⟨xaw, rfl⟩ := hb1.get; clear hb1))
    go_ret
    exact ⟨rfl, by repeat (first | exact Ext.refl' _ | assumption | apply Ext.ex' | apply Ext.al | apply Ext.drN | apply Ext.dr)⟩

end Go.Proofs.YtccndjnaakmlkaaGreat
