/- covers. -/
import Derived.Test.YtpifjhoelnacgaaCfA
set_option linter.unusedSimpArgs false
set_option linter.unusedVariables false
namespace Go.Proofs.Ytpifjhoelnacgaa
open Go.RowKit


theorem inT_drop {l : List Acc} {k : Nat} (h : k < l.length) (t : List UInt8) (x : Int) : inT (l.drop k) t x = ((decide (tb l[k] = t) && inP l[k].2 x) || inT (l.drop (k + 1)) t x) := by
  unfold inT; rw [List.drop_eq_getElem_cons h, List.any_cons]
set_option maxRecDepth 100000 in
set_option maxHeartbeats 2000000 in
theorem covers_any (A : Option Addr) (n c : Nat) (l : List Acc) (s : ByteArray) (x : Int) (w : World) (hn : n = l.length) (hA : Rd w 3 A n (acl l)) (hl : l.length ≤ 9223372036854775807) :
    Calls Try.prog 7 #[.slice A n c, .string s, .int .i64 x] w fun e w' => e = .returned (.bool (inT l s.data.toList x)) ∧ Ext w w' := by
  subst hn
  have HC : Hid (inT l s.data.toList x = inT (l.drop 0) s.data.toList x) := Lib.hid (by simp)
  generalize inT l s.data.toList x = r at HC ⊢
  go_enter Try.func7, Try.ntmps7
  go_wp2
  go_loopw [11] (fun i wr => ∃ k : Nat, k ≤ l.length ∧ i = .int .i64 k ∧ Hid (r = inT (l.drop k) s.data.toList x) ∧ Ext w wr) (fun i _ => l.length - (intOf i).toNat)
  case atStart => exact ⟨0, Nat.zero_le _, rfl, HC, Ext.refl' _⟩
  case round =>
    obtain ⟨k, hk, rfl, HR, hext⟩ := hrel
    by_cases hlt : k < l.length
    · obtain ⟨b, o, rfl, hbw, hc1, hc2, hc3⟩ := (hA.ext hext).acc rfl hlt
      have HD : Hid (inT (l.drop k) s.data.toList x = ((decide (tb l[k] = s.data.toList) && inP l[k].2 x) || inT (l.drop (k + 1)) s.data.toList x)) := Lib.hid (inT_drop hlt _ _)
      have h2 := bl_tb l[k] (s, (0, 0))
      have HS : Hid (tb (s, ((0 : Int), (0 : Int))) = s.data.toList) := Lib.hid rfl
      rw [HS.out] at h2
      generalize decide (tb l[k] = s.data.toList) = y at HD h2
      generalize l[k] = p at hc1 hc2 hc3 HD h2
      obtain ⟨s', p1, p2⟩ := p
      simp only at hc1 hc2 hc3 HD h2
      rcases y with _ | _
      · go_wp2
        go_roundw
        case rel => exact ⟨k + 1, by omega, by go_num, Lib.hid (by rw [HR.out, HD.out]; simp), hext.tr (by repeat (first | exact Ext.refl' _ | assumption | apply Ext.ex' | apply Ext.al | apply Ext.drN | apply Ext.dr))⟩
        case measure => simp [intOf]; omega
      · by_cases d0 : 0 ≤ p1
        · by_cases d1 : p2 ≤ 1099511627776
          · by_cases d2 : p1 ≤ x
            · by_cases d3 : x < p2
              · have hz : inP (p1, p2) x = true := inP_iff.2 ⟨by omega, by omega, by omega, by omega⟩
                rw [hz] at HD
                clear hz
                have HX : Hid (r = true) := Lib.hid (by rw [HR.out, HD.out]; simp)
                go_wp2
                go_ret
                exact ⟨congrArg (fun b => Ending.returned (.bool b)) HX.out.symm, hext.tr (by repeat (first | exact Ext.refl' _ | assumption | apply Ext.ex' | apply Ext.al | apply Ext.drN | apply Ext.dr))⟩
              · have hz : inP (p1, p2) x = false := by
                  rcases h : inP (p1, p2) x with _ | _
                  · rfl
                  · have := inP_iff.1 h; simp only at this; omega
                rw [hz] at HD
                clear hz
                go_wp2
                go_roundw
                case rel => exact ⟨k + 1, by omega, by go_num, Lib.hid (by rw [HR.out, HD.out]; simp), hext.tr (by repeat (first | exact Ext.refl' _ | assumption | apply Ext.ex' | apply Ext.al | apply Ext.drN | apply Ext.dr))⟩
                case measure => simp [intOf]; omega
            · have hz : inP (p1, p2) x = false := by
                rcases h : inP (p1, p2) x with _ | _
                · rfl
                · have := inP_iff.1 h; simp only at this; omega
              rw [hz] at HD
              clear hz
              go_wp2
              go_roundw
              case rel => exact ⟨k + 1, by omega, by go_num, Lib.hid (by rw [HR.out, HD.out]; simp), hext.tr (by repeat (first | exact Ext.refl' _ | assumption | apply Ext.ex' | apply Ext.al | apply Ext.drN | apply Ext.dr))⟩
              case measure => simp [intOf]; omega
          · have hz : inP (p1, p2) x = false := by
              rcases h : inP (p1, p2) x with _ | _
              · rfl
              · have := inP_iff.1 h; simp only at this; omega
            rw [hz] at HD
            clear hz
            go_wp2
            go_roundw
            case rel => exact ⟨k + 1, by omega, by go_num, Lib.hid (by rw [HR.out, HD.out]; simp), hext.tr (by repeat (first | exact Ext.refl' _ | assumption | apply Ext.ex' | apply Ext.al | apply Ext.drN | apply Ext.dr))⟩
            case measure => simp [intOf]; omega
        · have hz : inP (p1, p2) x = false := by
            rcases h : inP (p1, p2) x with _ | _
            · rfl
            · have := inP_iff.1 h; simp only at this; omega
          rw [hz] at HD
          clear hz
          go_wp2
          go_roundw
          case rel => exact ⟨k + 1, by omega, by go_num, Lib.hid (by rw [HR.out, HD.out]; simp), hext.tr (by repeat (first | exact Ext.refl' _ | assumption | apply Ext.ex' | apply Ext.al | apply Ext.drN | apply Ext.dr))⟩
          case measure => simp [intOf]; omega
    · have HX : Hid (r = false) := Lib.hid (by rw [HR.out, List.drop_eq_nil_of_le (Nat.le_of_not_lt hlt)]; rfl)
      go_wp2
      go_ret
      exact ⟨congrArg (fun b => Ending.returned (.bool b)) HX.out.symm, hext.tr (by repeat (first | exact Ext.refl' _ | assumption | apply Ext.ex' | apply Ext.al | apply Ext.drN | apply Ext.dr))⟩

end Go.Proofs.Ytpifjhoelnacgaa
