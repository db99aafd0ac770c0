/- The walk of the law ClockFound. -/
import Derived.Test.YtfimkjponcnlmaaClkC
set_option linter.unusedSimpArgs false
set_option linter.unusedVariables false
namespace Go.Proofs.Ytfimkjponcnlmaa
open Go.RowKit

set_option maxRecDepth 100000 in
set_option maxHeartbeats 4000000 in
theorem lawFound_any (A : Option Addr) (c : Nat) (l : List Int) (w : World) (hr : Rd w 1 A l.length (ic l)) (hl : l.length * 8 ≤ 140737488351232) :
    Calls Try.prog 9 #[.slice A l.length c] w fun e w' => e = .returned (.bool true) ∧ Ext w w' := by
  have H3 := Lib.hid (fun w h => creplay_any A c l w h hl)
  by_cases hz : (rpl (0, 0) [] l).2 = 0
  · by_cases h60 : l.length ≤ 60
    · obtain ⟨h1, h2⟩ := rpl_ok l (0, 0) [] hz
      rw [List.nil_append] at h1
      rw [h1, hz] at H3
      have hck := chk_rl l (0, 0) h2
      have HI := Lib.hid (rl_inst l (0, 0) h2)
      have HS := rl_length l (0, 0)
      clear h1 h2 hz
      generalize rl (0, 0) l = s at H3 HS hck HI
      have hsl : s.length ≤ 60 := by omega
      have h60' : decide ((60 : Int) < (l.length : Int)) = false := by simp; omega
      have hckb : (chk 0 s != 0) = false := by simp only [hck]; decide
      have HK : Hid (chk 0 s = 0) := Lib.hid hck
      have HSL : Hid (s.length ≤ 9223372036854775807) := Lib.hid (by omega)
      have HSB : Hid (s.length * 16 ≤ 140737488351232) := Lib.hid (by omega)
      clear hck HS
      go_enter Try.func9, Try.ntmps9
      go_wp2_with (first | (go_at_call 25; (refine (H3.out _ (hr.ext (by repeat (first | exact Ext.refl' _ | assumption | apply Ext.ex' | apply Ext.al | apply Ext.drN | apply Ext.dr)))).mono ?_; rintro e w1 ⟨v3, rfl, hb1, ho3⟩; obtain ⟨x3, rfl⟩ := hb1.get; obtain ⟨A3, c3, rfl, hl3, hm3⟩ := Own.form ho3; have hR3 := Rd.of_own ho3; generalize ext w x3 = W1 at hb1 hR3 ⊢; clear ho3 hl3 hm3)) | (go_at_call 15; (refine (ccheck_any _ _ _ _ (hR3.ext (by repeat (first | exact Ext.refl' _ | assumption | apply Ext.ex' | apply Ext.al | apply Ext.drN | apply Ext.dr))) HSL.out).mono ?_; rintro e w2 ⟨rfl, hb2⟩; obtain ⟨x5, rfl⟩ := hb2.get; clear hb2)))
      go_loopw [27] (fun i wr => ∃ k : Nat, k ≤ s.length ∧ i = .int .i64 k ∧ Ext W1 wr) (fun i _ => s.length - (intOf i).toNat)
      case atStart => exact ⟨0, Nat.zero_le _, rfl, Ext.ex _ _⟩
      case round =>
        obtain ⟨k, hk, rfl, hext⟩ := hrel
        obtain ⟨x, rfl⟩ := hext.get
        clear hext
        by_cases hlt : k < s.length
        · obtain ⟨b, o, rfl, hb, hd1, hd2⟩ := hR3.pair rfl hlt
          have HH := Lib.hid (shown_hit HK.out (List.getElem_mem hlt) (HI.out _ (List.getElem_mem hlt)))
          have HLN := Lib.hid (shown_length s s[k].2)
          have H5 := Lib.hid (fun w h => cshown_any (some ⟨b, o, none⟩) c3 s s[k].2 w h HSB.out)
          generalize s[k] = a at hd1 hd2 HH HLN H5
          have hln : (shown s a.2).length ≤ 61 := by have := HLN.out; omega
          generalize shown s a.2 = out at HH hln H5
          go_wp2_with (go_at_call 23; (refine (H5.out _ (hR3.ext (by repeat (first | exact Ext.refl' _ | assumption | apply Ext.ex' | apply Ext.al | apply Ext.drN | apply Ext.dr)))).mono ?_; rintro e w1 ⟨v4, rfl, hb4, ho4⟩; obtain ⟨x4, rfl⟩ := hb4.get; obtain ⟨A4, c4, rfl, hl4, hm4⟩ := Own.form ho4; have hR4 := Rd.of_own ho4; have hE4 : Ext W1 (ext (ext W1 x) x4) := (by repeat (first | exact Ext.refl' _ | assumption | apply Ext.ex' | apply Ext.al | apply Ext.drN | apply Ext.dr)); have hc3 : (ext (ext W1 x) x4).cell? ⟨b, o + k * 2, none⟩ = some (.int .i64 a.1) := hE4.cell' hd1; have hb3 : b < (ext (ext W1 x) x4).heap.size := Nat.lt_of_lt_of_le hb hE4.size; generalize ext (ext W1 x) x4 = W2 at hb4 hR4 hE4 hc3 hb3 ⊢; clear ho4 hl4 hm4))
          go_loopw [6, 38] (fun fo i wr => ∃ (j : Nat) (fnd : Bool), j ≤ out.length ∧ i = .int .i64 j ∧ fo = .bool fnd ∧ Hid ((fnd || anyc (out.drop j) a.1) = true) ∧ Ext W2 wr) (fun _ i _ => out.length - (intOf i).toNat)
          case atStart => exact ⟨0, false, Nat.zero_le _, rfl, rfl, Lib.hid (by simpa using HH.out), Ext.refl' _⟩
          case round =>
            obtain ⟨j, fnd, hj, rfl, rfl, HF, hext2⟩ := hrel
            obtain ⟨x2, rfl⟩ := hext2.get
            clear hext2
            by_cases hjl : j < out.length
            · obtain ⟨b4, o4, rfl, hb4', he1, he2⟩ := hR4.pair rfl hjl
              have HG := HF.out
              rw [List.drop_eq_getElem_cons hjl, anyc, List.any_cons, ← anyc] at HG
              generalize out[j] = p at he1 he2 HG
              rcases fnd with _ | _
              · by_cases hp1 : p.1 ≤ a.1
                · by_cases hp2 : a.1 < p.2
                  · have H6 : Hid ((true || anyc (out.drop (j + 1)) a.1) = true) := Lib.hid (by simp)
                    clear HG HF
                    have hq1 : decide (p.1 ≤ a.1) = true := by simp [hp1]
                    have hq2 : decide (a.1 < p.2) = true := by simp [hp2]
                    go_wp2
                    go_quiet (fail)
                    go_wp2
                    go_roundw
                    case rel =>
                      go_light
                      exact ⟨j + 1, true, by omega, by go_num, rfl, H6, by repeat (first | exact Ext.refl' _ | assumption | apply Ext.ex' | apply Ext.al | apply Ext.drN | apply Ext.dr)⟩
                    case measure => go_light; simp [intOf]; omega
                  · have H6 : Hid ((false || anyc (out.drop (j + 1)) a.1) = true) := Lib.hid (by simpa [hp1, hp2] using HG)
                    clear HG HF
                    have hq1 : decide (p.1 ≤ a.1) = true := by simp [hp1]
                    have hq2 : decide (a.1 < p.2) = false := by simp; omega
                    go_wp2
                    go_quiet (fail)
                    go_wp2
                    go_roundw
                    case rel =>
                      go_light
                      exact ⟨j + 1, false, by omega, by go_num, rfl, H6, by repeat (first | exact Ext.refl' _ | assumption | apply Ext.ex' | apply Ext.al | apply Ext.drN | apply Ext.dr)⟩
                    case measure => go_light; simp [intOf]; omega
                · have H6 : Hid ((false || anyc (out.drop (j + 1)) a.1) = true) := Lib.hid (by simpa [hp1] using HG)
                  clear HG HF
                  have hq1 : decide (p.1 ≤ a.1) = false := by simp; omega
                  go_wp2
                  go_quiet (fail)
                  go_wp2
                  go_roundw
                  case rel =>
                    go_light
                    exact ⟨j + 1, false, by omega, by go_num, rfl, H6, by repeat (first | exact Ext.refl' _ | assumption | apply Ext.ex' | apply Ext.al | apply Ext.drN | apply Ext.dr)⟩
                  case measure => go_light; simp [intOf]; omega
              · have H6 : Hid ((true || anyc (out.drop (j + 1)) a.1) = true) := Lib.hid (by simp)
                clear HG HF
                go_wp2
                go_quiet (fail)
                go_wp2
                go_roundw
                case rel =>
                  go_light
                  exact ⟨j + 1, true, by omega, by go_num, rfl, H6, by repeat (first | exact Ext.refl' _ | assumption | apply Ext.ex' | apply Ext.al | apply Ext.drN | apply Ext.dr)⟩
                case measure => go_light; simp [intOf]; omega
            · have hfd : fnd = true := by
                have := HF.out
                rw [List.drop_eq_nil_of_le (Nat.le_of_not_lt hjl)] at this
                simpa [anyc] using this
              subst hfd
              clear HF
              go_wp2
              go_roundw
              case rel =>
                go_light
                exact ⟨k + 1, by omega, by go_num, hE4.tr (by repeat (first | exact Ext.refl' _ | assumption | apply Ext.ex' | apply Ext.al | apply Ext.drN | apply Ext.dr))⟩
              case measure => go_light; simp [intOf]; omega
        · go_wp2_with (go_at_call 14; (refine (works_any _).mono ?_; rintro e w1 ⟨rfl, hb1⟩; obtain ⟨x6, rfl⟩ := hb1.get; clear hb1))
          go_ret
          exact ⟨rfl, hb1.tr (by repeat (first | exact Ext.refl' _ | assumption | apply Ext.ex' | apply Ext.al | apply Ext.drN | apply Ext.dr))⟩
    · have h60' : decide ((60 : Int) < (l.length : Int)) = true := by simp; omega
      rw [hz] at H3
      clear hz
      generalize (rpl (0, 0) [] l).1 = s at H3
      go_enter Try.func9, Try.ntmps9
      go_wp2_with (first | (go_at_call 25; (refine (H3.out _ (hr.ext (by repeat (first | exact Ext.refl' _ | assumption | apply Ext.ex' | apply Ext.al | apply Ext.drN | apply Ext.dr)))).mono ?_; rintro e w1 ⟨v3, rfl, hb1, ho3⟩; obtain ⟨x3, rfl⟩ := hb1.get; obtain ⟨A3, c3, rfl, hl3, hm3⟩ := Own.form ho3; have hR3 := Rd.of_own ho3; generalize ext w x3 = W1 at hb1 hR3 ⊢; clear ho3 hl3 hm3)) | (go_at_call 14; (refine (works_any _).mono ?_; rintro e w1 ⟨rfl, hb1⟩; obtain ⟨x6, rfl⟩ := hb1.get; clear hb1)))
      go_ret
      exact ⟨rfl, hb1.tr (by repeat (first | exact Ext.refl' _ | assumption | apply Ext.ex' | apply Ext.al | apply Ext.drN | apply Ext.dr))⟩
  · have hzb : ((rpl (0, 0) [] l).2 != 0) = true := by simp [hz]
    clear hz
    generalize rpl (0, 0) [] l = rs at H3 hzb
    go_enter Try.func9, Try.ntmps9
    go_wp2_with (first | (go_at_call 25; (refine (H3.out _ (hr.ext (by repeat (first | exact Ext.refl' _ | assumption | apply Ext.ex' | apply Ext.al | apply Ext.drN | apply Ext.dr)))).mono ?_; rintro e w1 ⟨v3, rfl, hb1, ho3⟩; obtain ⟨x3, rfl⟩ := hb1.get; obtain ⟨A3, c3, rfl, hl3, hm3⟩ := Own.form ho3; have hR3 := Rd.of_own ho3; generalize ext w x3 = W1 at hb1 hR3 ⊢; clear ho3 hl3 hm3)) | (go_at_call 14; (refine (works_any _).mono ?_; rintro e w1 ⟨rfl, hb1⟩; obtain ⟨x6, rfl⟩ := hb1.get; clear hb1)))
    go_ret
    exact ⟨rfl, hb1.tr (by repeat (first | exact Ext.refl' _ | assumption | apply Ext.ex' | apply Ext.al | apply Ext.drN | apply Ext.dr))⟩
end Go.Proofs.Ytfimkjponcnlmaa
