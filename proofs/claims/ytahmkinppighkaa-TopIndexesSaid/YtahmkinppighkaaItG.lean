/- Overlaps and Ints of the references. -/
import Derived.Test.YtahmkinppighkaaItF
import Derived.Test.YtahmkinppighkaaTrT
set_option linter.unusedSimpArgs false
set_option linter.unusedVariables false
namespace Go.Proofs.Ytahmkinppighkaa
open Go.RowKit

def rovB (a b : Rct) : Bool := rvB a && rvB b && povB a.1 b.1 && povB a.2 b.2

set_option maxHeartbeats 400000 in
theorem sound_any (r : Rct) (w : World) : Calls Try.prog 49 #[rx r] w fun e w' => e = .returned (.bool (rvB r)) ∧ Ext w w' := by
  have H1 := Lib.hid (fun w => rvalid_any r.1 w)
  have H2 := Lib.hid (fun w => rvalid_any r.2 w)
  have HR : Hid (rvB r = (pvB r.1 && pvB r.2)) := Lib.hid rfl
  rcases h1 : pvB r.1 with _ | _
  · rw [h1] at H1 HR
    go_enter Try.func49, Try.ntmps49
    go_wp2_with (go_at_call 72; refine Calls.mono (H1.out _) ?_; rintro e w1 ⟨rfl, hb1⟩; obtain ⟨x1, rfl⟩ := hb1.get; clear hb1)
    go_ret
    exact ⟨by rw [HR.out]; rfl, by repeat (first | exact Ext.refl' _ | assumption | apply Ext.ex' | apply Ext.al | apply Ext.drN | apply Ext.dr)⟩
  · rw [h1] at H1 HR
    generalize pvB r.2 = v2 at H2 HR
    go_enter Try.func49, Try.ntmps49
    go_wp2_with fail
    refine Calls.mono (H1.out _) ?_
    rintro e w1 ⟨rfl, hb1⟩
    obtain ⟨x1, rfl⟩ := hb1.get
    clear hb1
    go_wp2_with fail
    refine Calls.mono (H2.out _) ?_
    rintro e w1 ⟨rfl, hb1⟩
    obtain ⟨x2, rfl⟩ := hb1.get
    clear hb1
    go_wp2
    go_ret
    exact ⟨by rw [HR.out]; rfl, by repeat (first | exact Ext.refl' _ | assumption | apply Ext.ex' | apply Ext.al | apply Ext.drN | apply Ext.dr)⟩

set_option maxHeartbeats 800000 in
theorem roverlapsR_any (a b : Rct) (w : World) : Calls Try.prog 21 #[rx a, rx b] w fun e w' => e = .returned (.bool (rovB a b)) ∧ Ext w w' := by
  have H1 := Lib.hid (fun w => sound_any a w)
  have H2 := Lib.hid (fun w => sound_any b w)
  have H3 := Lib.hid (fun w => roverlaps_any a.1 b.1 w)
  have H4 := Lib.hid (fun w => roverlaps_any a.2 b.2 w)
  rcases h1 : rvB a with _ | _
  · rw [h1] at H1
    have HE : Hid (rovB a b = false) := Lib.hid (by unfold rovB; rw [h1]; rfl)
    go_enter Try.func21, Try.ntmps21
    go_wp2_with (first | (go_at_call 49; (with_reducible refine Calls.mono (H1.out _) ?_); rintro e w1 ⟨rfl, hb1⟩; obtain ⟨y1, rfl⟩ := hb1.get; clear hb1) | (go_at_call 49; (with_reducible refine Calls.mono (H2.out _) ?_); rintro e w1 ⟨rfl, hb1⟩; obtain ⟨y2, rfl⟩ := hb1.get; clear hb1) | (go_at_call 50; (with_reducible refine Calls.mono (H3.out _) ?_); rintro e w1 ⟨rfl, hb1⟩; obtain ⟨y3, rfl⟩ := hb1.get; clear hb1) | (go_at_call 50; (with_reducible refine Calls.mono (H4.out _) ?_); rintro e w1 ⟨rfl, hb1⟩; obtain ⟨y4, rfl⟩ := hb1.get; clear hb1))
    go_ret
    exact ⟨by rw [HE.out]; rfl, by repeat (first | exact Ext.refl' _ | assumption | apply Ext.ex' | apply Ext.al | apply Ext.drN | apply Ext.dr)⟩
  · rw [h1] at H1
    rcases h2 : rvB b with _ | _
    · rw [h2] at H2
      have HE : Hid (rovB a b = false) := Lib.hid (by unfold rovB; rw [h1, h2]; rfl)
      go_enter Try.func21, Try.ntmps21
      go_wp2_with (first | (go_at_call 49; (with_reducible refine Calls.mono (H1.out _) ?_); rintro e w1 ⟨rfl, hb1⟩; obtain ⟨y1, rfl⟩ := hb1.get; clear hb1) | (go_at_call 49; (with_reducible refine Calls.mono (H2.out _) ?_); rintro e w1 ⟨rfl, hb1⟩; obtain ⟨y2, rfl⟩ := hb1.get; clear hb1) | (go_at_call 50; (with_reducible refine Calls.mono (H3.out _) ?_); rintro e w1 ⟨rfl, hb1⟩; obtain ⟨y3, rfl⟩ := hb1.get; clear hb1) | (go_at_call 50; (with_reducible refine Calls.mono (H4.out _) ?_); rintro e w1 ⟨rfl, hb1⟩; obtain ⟨y4, rfl⟩ := hb1.get; clear hb1))
      go_ret
      exact ⟨by rw [HE.out]; rfl, by repeat (first | exact Ext.refl' _ | assumption | apply Ext.ex' | apply Ext.al | apply Ext.drN | apply Ext.dr)⟩
    · rw [h2] at H2
      rcases h3 : povB a.1 b.1 with _ | _
      · rw [h3] at H3
        have HE : Hid (rovB a b = false) := Lib.hid (by unfold rovB; rw [h1, h2, h3]; rfl)
        go_enter Try.func21, Try.ntmps21
        go_wp2_with (first | (go_at_call 49; (with_reducible refine Calls.mono (H1.out _) ?_); rintro e w1 ⟨rfl, hb1⟩; obtain ⟨y1, rfl⟩ := hb1.get; clear hb1) | (go_at_call 49; (with_reducible refine Calls.mono (H2.out _) ?_); rintro e w1 ⟨rfl, hb1⟩; obtain ⟨y2, rfl⟩ := hb1.get; clear hb1) | (go_at_call 50; (with_reducible refine Calls.mono (H3.out _) ?_); rintro e w1 ⟨rfl, hb1⟩; obtain ⟨y3, rfl⟩ := hb1.get; clear hb1) | (go_at_call 50; (with_reducible refine Calls.mono (H4.out _) ?_); rintro e w1 ⟨rfl, hb1⟩; obtain ⟨y4, rfl⟩ := hb1.get; clear hb1))
        go_ret
        exact ⟨by rw [HE.out]; rfl, by repeat (first | exact Ext.refl' _ | assumption | apply Ext.ex' | apply Ext.al | apply Ext.drN | apply Ext.dr)⟩
      · rw [h3] at H3
        rcases h4 : povB a.2 b.2 with _ | _
        · rw [h4] at H4
          have HE : Hid (rovB a b = false) := Lib.hid (by unfold rovB; rw [h1, h2, h3, h4]; rfl)
          go_enter Try.func21, Try.ntmps21
          go_wp2_with (first | (go_at_call 49; (with_reducible refine Calls.mono (H1.out _) ?_); rintro e w1 ⟨rfl, hb1⟩; obtain ⟨y1, rfl⟩ := hb1.get; clear hb1) | (go_at_call 49; (with_reducible refine Calls.mono (H2.out _) ?_); rintro e w1 ⟨rfl, hb1⟩; obtain ⟨y2, rfl⟩ := hb1.get; clear hb1) | (go_at_call 50; (with_reducible refine Calls.mono (H3.out _) ?_); rintro e w1 ⟨rfl, hb1⟩; obtain ⟨y3, rfl⟩ := hb1.get; clear hb1) | (go_at_call 50; (with_reducible refine Calls.mono (H4.out _) ?_); rintro e w1 ⟨rfl, hb1⟩; obtain ⟨y4, rfl⟩ := hb1.get; clear hb1))
          go_ret
          exact ⟨by rw [HE.out]; rfl, by repeat (first | exact Ext.refl' _ | assumption | apply Ext.ex' | apply Ext.al | apply Ext.drN | apply Ext.dr)⟩
        · rw [h4] at H4
          have HE : Hid (rovB a b = true) := Lib.hid (by unfold rovB; rw [h1, h2, h3, h4]; rfl)
          go_enter Try.func21, Try.ntmps21
          go_wp2_with (first | (go_at_call 49; (with_reducible refine Calls.mono (H1.out _) ?_); rintro e w1 ⟨rfl, hb1⟩; obtain ⟨y1, rfl⟩ := hb1.get; clear hb1) | (go_at_call 49; (with_reducible refine Calls.mono (H2.out _) ?_); rintro e w1 ⟨rfl, hb1⟩; obtain ⟨y2, rfl⟩ := hb1.get; clear hb1) | (go_at_call 50; (with_reducible refine Calls.mono (H3.out _) ?_); rintro e w1 ⟨rfl, hb1⟩; obtain ⟨y3, rfl⟩ := hb1.get; clear hb1) | (go_at_call 50; (with_reducible refine Calls.mono (H4.out _) ?_); rintro e w1 ⟨rfl, hb1⟩; obtain ⟨y4, rfl⟩ := hb1.get; clear hb1))
          go_ret
          exact ⟨by rw [HE.out]; rfl, by repeat (first | exact Ext.refl' _ | assumption | apply Ext.ex' | apply Ext.al | apply Ext.drN | apply Ext.dr)⟩

set_option maxHeartbeats 1000000 in
theorem ints02_any (A B : Option Addr) (c d : Nat) (l m : List Int) (w : World) (hA : Rd w 1 A l.length (ic l)) (hB : Rd w 1 B m.length (ic m)) (hl : l.length ≤ 9223372036854775807) (hm : m.length ≤ 9223372036854775807) :
    Calls Try.prog 22 #[.slice A l.length c, .slice B m.length d] w fun e w' => e = .returned (.bool (decide (l = m))) ∧ Ext w w' := by
  by_cases hn : l.length = m.length
  · have hb : ((l.length : Int) != (m.length : Int)) = false := by simp [hn]
    have HN := Lib.hid hn
    clear hn
    go_enter Try.func22, Try.ntmps22
    go_wp2
    go_loopw [5] (fun i wr => ∃ k : Nat, k ≤ l.length ∧ i = .int .i64 k ∧ Hid (l.take k = m.take k) ∧ Ext w wr) (fun i _ => l.length - (intOf i).toNat)
    case atStart => exact ⟨0, Nat.zero_le _, rfl, Lib.hid (by simp), Ext.refl' _⟩
    case round =>
      obtain ⟨k, hk, rfl, HT, hext⟩ := hrel
      obtain ⟨x, rfl⟩ := hext.get
      clear hext
      by_cases hlt : k < l.length
      · obtain ⟨b, o, rfl, hb, hc1⟩ := hA.int hlt
        have hlt' : k < m.length := by have := HN.out; omega
        obtain ⟨b', o', rfl, hb', hd1⟩ := hB.int hlt'
        by_cases heq : l[k] = m[k]
        · have HE := Lib.hid (take_succ_eq hlt hlt' HT.out heq)
          have hdq : (l[k] != m[k]) = false := by simp [heq]
          clear heq
          generalize l[k] = p at hc1 hdq
          generalize m[k] = q at hd1 hdq
          go_wp2
          go_quiet (fail)
          go_wp2
          go_roundw
          case rel => exact ⟨k + 1, by omega, by go_num, HE, by repeat (first | exact Ext.refl' _ | assumption | apply Ext.ex' | apply Ext.al | apply Ext.drN | apply Ext.dr)⟩
          case measure => simp [intOf]; omega
        · have HE := Lib.hid (take_ne hlt hlt' heq)
          have hdq : (l[k] != m[k]) = true := by simp [heq]
          clear heq
          generalize l[k] = p at hc1 hdq
          generalize m[k] = q at hd1 hdq
          go_wp2
          go_quiet (fail)
          go_wp2
          go_ret
          exact ⟨by simp [HE.out], by repeat (first | exact Ext.refl' _ | assumption | apply Ext.ex' | apply Ext.al | apply Ext.drN | apply Ext.dr)⟩
      · go_wp2
        go_ret
        exact ⟨by rw [eq_of_takes HN.out hlt HT.out]; simp, Ext.ex _ _⟩
  · have hb : ((l.length : Int) != (m.length : Int)) = true := by simp; omega
    have hlm : decide (l = m) = false := by simp; rintro rfl; exact hn rfl
    rw [hlm]
    clear hn hlm
    go_enter Try.func22, Try.ntmps22
    go_wp2
    go_ret
    exact ⟨rfl, Ext.refl' _⟩

end Go.Proofs.Ytahmkinppighkaa
