/- The walk of the law ClockOrder. -/
import Derived.Test.YtfimkjponcnlmaaClkV
import Derived.Test.YtfimkjponcnlmaaClkP
set_option linter.unusedSimpArgs false
set_option linter.unusedVariables false
namespace Go.Proofs.Ytfimkjponcnlmaa
open Go.RowKit

def rl (c : Int × Int) : List Int → List (Int × Int)
  | [] => []
  | x :: r => ((nextF c x).2.1, x) :: rl (nextF c x).1 r
def okl (c : Int × Int) : List Int → Prop
  | [] => True
  | x :: r => (nextF c x).2.2 = 0 ∧ okl (nextF c x).1 r
theorem rpl_ok : ∀ (l : List Int) (c : Int × Int) (acc : List (Int × Int)), (rpl c acc l).2 = 0 → (rpl c acc l).1 = acc ++ rl c l ∧ okl c l
  | [], c, acc, _ => by simp [rpl, rl, okl]
  | x :: l, c, acc, h => by
    rw [rpl] at h ⊢
    split at h
    · rename_i hz
      have := rpl_ok l _ _ h
      rw [if_pos hz, this.1]
      exact ⟨by simp [rl], hz, this.2⟩
    · rename_i hz; exact absurd h hz
theorem rpl_err : ∀ (l : List Int) (c : Int × Int) (acc : List (Int × Int)), (rpl c acc l).2 ≠ 0 → (rpl c acc l).1 = []
  | [], c, acc, h => by simp [rpl] at h
  | x :: l, c, acc, h => by
    rw [rpl] at h ⊢
    split at h
    · rename_i hz; rw [if_pos hz]; exact rpl_err l _ _ h
    · rename_i hz; rw [if_neg hz]
theorem rl_length : ∀ (l : List Int) (c : Int × Int), (rl c l).length = l.length
  | [], c => rfl
  | x :: l, c => by simp [rl, rl_length l]
theorem next_val {c : Int × Int} {x : Int} (h : (nextF c x).2.2 = 0) : nextF c x = ((mx (c.1 + 1) x, x), mx (c.1 + 1) x, 0) ∧ cvB c = true ∧ instB x = true := by
  unfold nextF at *
  split at h
  · simp at h
  · rename_i hc
    rw [if_neg hc]
    split at h
    · simp at h
    · rename_i hi
      rw [if_neg hi]
      split at h
      · simp at h
      · rename_i hm
        rw [if_neg hm]
        exact ⟨rfl, by simpa using hc, by simpa using hi⟩
theorem mx_ge (a b : Int) : a ≤ mx a b ∧ b ≤ mx a b := by unfold mx; split <;> omega

set_option maxRecDepth 100000 in
set_option maxHeartbeats 2000000 in
theorem lawOrder_any (A : Option Addr) (c : Nat) (l : List Int) (w : World) (hr : Rd w 1 A l.length (ic l)) (hl : l.length * 8 ≤ 140737488351232) :
    Calls Try.prog 8 #[.slice A l.length c] w fun e w' => e = .returned (.bool true) ∧ Ext w w' := by
  have H3 := Lib.hid (fun w h => creplay_any A c l w h hl)
  by_cases hz : (rpl (0, 0) [] l).2 = 0
  · obtain ⟨h1, h2⟩ := rpl_ok l (0, 0) [] hz
    rw [List.nil_append] at h1
    rw [h1, hz] at H3
    have HS := Lib.hid (rl_length l (0, 0))
    have HO := Lib.hid h2
    clear h1 h2 hz
    have HD : Hid ((rl (0, 0) l).drop 0 = rl (0, 0) (l.drop 0)) := Lib.hid rfl
    generalize rl (0, 0) l = s at H3 HS HD
    have hsl : ((s.length : Int) != (l.length : Int)) = false := by simp [HS.out]
    go_enter Try.func8, Try.ntmps8
    go_wp2_with (go_at_call 25; (refine (H3.out _ (hr.ext (by repeat (first | exact Ext.refl' _ | assumption | apply Ext.ex' | apply Ext.al | apply Ext.drN | apply Ext.dr)))).mono ?_; rintro e w1 ⟨v3, rfl, hb1, ho3⟩; obtain ⟨x3, rfl⟩ := hb1.get; obtain ⟨A3, c3, rfl, hl3, hm3⟩ := Own.form ho3; have hR3 := Rd.of_own ho3; have hr3 := hr.ext hb1; generalize ext w x3 = W1 at hb1 hR3 hr3 ⊢; clear ho3 hl3 hm3))
    go_loopw [5, 6, 7, 29] (fun u la wa i wr => ∃ (k : Nat) (c : Int × Int) (up : Bool), k ≤ l.length ∧ i = .int .i64 k ∧ la = .int .i64 c.1 ∧ wa = .int .i64 c.2 ∧ u = .bool up ∧ Hid (up = true → c.1 = c.2) ∧ Hid (s.drop k = rl c (l.drop k)) ∧ Hid (okl c (l.drop k)) ∧ Ext W1 wr) (fun _ _ _ i _ => l.length - (intOf i).toNat)
    case atStart => exact ⟨0, (0, 0), true, Nat.zero_le _, rfl, rfl, rfl, rfl, Lib.hid (fun _ => rfl), HD, HO, Ext.refl' _⟩
    case round =>
      obtain ⟨k, c, up, hk, rfl, rfl, rfl, rfl, HU, HD, HO, hext⟩ := hrel
      obtain ⟨x, rfl⟩ := hext.get
      clear hext
      by_cases hlt : k < l.length
      · have hls : k < s.length := by have := HS.out; omega
        obtain ⟨b, o, rfl, hb, hc1⟩ := hr3.int hlt
        obtain ⟨b', o', rfl, hb', hd1, hd2⟩ := hR3.pair rfl hls
        have hdl := HD.out
        have hol := HO.out
        rw [List.drop_eq_getElem_cons hlt] at hdl hol
        rw [List.drop_eq_getElem_cons hls, rl, List.cons.injEq] at hdl
        obtain ⟨he, hdl⟩ := hdl
        rw [okl] at hol
        obtain ⟨hv, _, _⟩ := next_val hol.1
        rw [hv] at he hdl hol
        simp only at he hdl hol
        have hge := mx_ge (c.1 + 1) l[k]
        have HUP : Hid (up = true → c.2 < l[k] → mx (c.1 + 1) l[k] = l[k]) := Lib.hid (fun h1 h2 => by have := HU.out h1; unfold mx; split <;> omega)
        rw [he] at hd1 hd2
        generalize l[k] = y at hc1 hd1 hd2 hdl hol hge HUP
        generalize mx (c.1 + 1) y = m at hd1 hd2 hdl hol hge HUP
        simp only at hd1 hd2
        have HD2 := Lib.hid hdl
        have HO2 := Lib.hid hol.2
        clear he hdl hol hv HD HO
        obtain ⟨hg1, hg2⟩ := hge
        have hq1 : decide (m ≤ c.1) = false := by simp; omega
        have hq2 : decide (m < y) = false := by simp; omega
        have hq3 : (y != y) = false := by simp
        rcases (show (up = true ∧ c.2 < y ∧ (m != y) = false) ∨ (up = true ∧ ¬ c.2 < y) ∨ up = false from by
          rcases up with _ | _
          · simp
          · by_cases h : c.2 < y
            · left; exact ⟨rfl, h, by simpa using HUP.out rfl h⟩
            · simp [h]) with ⟨rfl, hcy, hmy⟩ | ⟨rfl, hcy⟩ | rfl
        · have hmy' : m = y := by simpa using hmy
          have HM := Lib.hid hmy'
          clear hmy'
          have hq4 : decide (c.2 < y) = true := by simp [hcy]
          go_wp2
          go_quiet (fail)
          go_wp2
          go_quiet (fail)
          go_wp2
          go_quiet (fail)
          go_wp2
          go_roundw
          case rel =>
            go_light
            exact ⟨k + 1, (m, y), true, by omega, by go_num, rfl, rfl, rfl, Lib.hid (fun _ => HM.out), HD2, HO2, by repeat (first | exact Ext.refl' _ | assumption | apply Ext.ex' | apply Ext.al | apply Ext.drN | apply Ext.dr)⟩
          case measure => go_light; simp [intOf]; omega
        · have hq4 : decide (c.2 < y) = false := by simp; omega
          go_wp2
          go_quiet (fail)
          go_wp2
          go_quiet (fail)
          go_wp2
          go_quiet (fail)
          go_wp2
          go_roundw
          case rel =>
            go_light
            exact ⟨k + 1, (m, y), false, by omega, by go_num, rfl, rfl, rfl, Lib.hid (fun h => by cases h), HD2, HO2, by repeat (first | exact Ext.refl' _ | assumption | apply Ext.ex' | apply Ext.al | apply Ext.drN | apply Ext.dr)⟩
          case measure => go_light; simp [intOf]; omega
        · go_wp2
          go_quiet (fail)
          go_wp2
          go_quiet (fail)
          go_wp2
          go_quiet (fail)
          go_wp2
          go_roundw
          case rel =>
            go_light
            exact ⟨k + 1, (m, y), false, by omega, by go_num, rfl, rfl, rfl, Lib.hid (fun h => by cases h), HD2, HO2, by repeat (first | exact Ext.refl' _ | assumption | apply Ext.ex' | apply Ext.al | apply Ext.drN | apply Ext.dr)⟩
          case measure => go_light; simp [intOf]; omega
      · have hls : ¬ k < s.length := by have := HS.out; omega
        go_wp2_with (go_at_call 14; (refine (works_any _).mono ?_; rintro e w1 ⟨rfl, hb1⟩; obtain ⟨x6, rfl⟩ := hb1.get; clear hb1))
        go_ret
        exact ⟨rfl, hb1.tr (by repeat (first | exact Ext.refl' _ | assumption | apply Ext.ex' | apply Ext.al | apply Ext.drN | apply Ext.dr))⟩
  · have h1 := rpl_err l (0, 0) [] hz
    rw [h1] at H3
    have hzb : ((rpl (0, 0) [] l).2 != 0) = true := by simp [hz]
    clear h1 hz
    generalize (rpl (0, 0) [] l).2 = e0 at H3 hzb
    go_enter Try.func8, Try.ntmps8
    go_wp2_with (first | (go_at_call 25; (refine (H3.out _ (hr.ext (by repeat (first | exact Ext.refl' _ | assumption | apply Ext.ex' | apply Ext.al | apply Ext.drN | apply Ext.dr)))).mono ?_; rintro e w1 ⟨v3, rfl, hb1, ho3⟩; obtain ⟨x3, rfl⟩ := hb1.get; obtain ⟨A3, c3, rfl, hl3, hm3⟩ := Own.form ho3; have hR3 := Rd.of_own ho3; have hr3 := hr.ext hb1; generalize ext w x3 = W1 at hb1 hR3 hr3 ⊢; clear ho3 hl3 hm3)) | (go_at_call 14; (refine (works_any _).mono ?_; rintro e w1 ⟨rfl, hb1⟩; obtain ⟨x6, rfl⟩ := hb1.get; clear hb1)))
    go_ret
    exact ⟨rfl, hb1.tr (by repeat (first | exact Ext.refl' _ | assumption | apply Ext.ex' | apply Ext.al | apply Ext.drN | apply Ext.dr))⟩
end Go.Proofs.Ytfimkjponcnlmaa
