/- The walk of the law ConflictNothing. -/
import Derived.Test.YtpifjhoelnacgaaCfF
import Derived.Test.YtpifjhoelnacgaaOpnV
set_option linter.unusedSimpArgs false
set_option linter.unusedVariables false
namespace Go.Proofs.Ytpifjhoelnacgaa
open Go.RowKit


set_option maxRecDepth 100000 in
set_option maxHeartbeats 4000000 in
theorem nothing_any (A : Option Addr) (n c : Nat) (l : List VR) (x : Int) (w : World) (hn : n = l.length) (hA : Rd w 9 A n (vev l)) (hok : ∀ p ∈ l, VROk w p) (h0 : 0 ≤ x) (h1 : x ≤ 65535) :
    Calls Try.prog 4 #[.slice A n c, .int .u16 x] w fun e w' => e = .returned (.bool true) ∧ Ext w w' := by
  subst hn
  have HF := Lib.hid (few_any A l.length c (l.map (·.1)) w (by simp) (show Rd w 9 A l.length (evl (l.map (·.1))) from hA))
  rcases hf : fewF (l.map (·.1)) with _ | _
  · rw [hf] at HF
    clear hf hok
    go_enter Try.func4, Try.ntmps4
    go_wp2_with (first | (go_at_call 9; (with_reducible refine Calls.mono HF.out ?_); rintro e w1 ⟨rfl, hb1⟩; obtain ⟨yf, rfl⟩ := hb1.get; clear hb1) | (go_at_call 5; (with_reducible refine Calls.mono (works_any _) ?_); rintro e w1 ⟨rfl, hb1⟩; obtain ⟨yw, rfl⟩ := hb1.get; clear hb1))
    go_ret
    exact ⟨rfl, by repeat (first | exact Ext.refl' _ | assumption | apply Ext.ex' | apply Ext.al | apply Ext.drN | apply Ext.dr)⟩
  · rw [hf] at HF
    have hl : l.length ≤ 40 := by have := (fewF_out hf).1; simpa using this
    clear hf
    have HOK := Lib.hid hok
    clear hok
    have HCH : Hid ((∀ p ∈ l, (p.1.s.2 = 1099511627776 ∧ p.1.s.1 ≤ x) ∨ p.1.s.2 ≤ x) → ∀ W, Ext w W → Calls Try.prog 10 #[.string ⟨#[116]⟩, .slice A l.length c, .int .i64 x] W fun e w' => ∃ A' c', e = .returned (.slice A' 0 c') ∧ Ext W w') := Lib.hid (by
      intro hp W hE
      refine Calls.mono (changed_any ⟨#[116]⟩ A l.length c l x W rfl (hA.ext hE) (fun p hp => (HOK.out p hp).ext hE) (by omega) (by decide)) ?_
      rintro e w1 ⟨A8, c8, r8, rfl, hb1, _, hst⟩
      rw [chgL_nil (by omega) hp] at hst
      obtain rfl := List.eq_nil_of_length_eq_zero (Nat.le_zero.1 hst.le)
      exact ⟨A8, c8, rfl, hb1⟩)
    go_enter Try.func4, Try.ntmps4
    go_wp2_with (go_at_call 9; (with_reducible refine Calls.mono HF.out ?_); rintro e w1 ⟨rfl, hb1⟩; obtain ⟨yf, rfl⟩ := hb1.get; clear hb1)
    go_loopw [13] (fun i wr => ∃ k : Nat, k ≤ l.length ∧ i = .int .i64 k ∧ Hid (∀ p ∈ l.take k, (p.1.s.2 = 1099511627776 ∧ p.1.s.1 ≤ x) ∨ p.1.s.2 ≤ x) ∧ Ext w wr) (fun i _ => l.length - (intOf i).toNat)
    case atStart => exact ⟨0, by omega, rfl, Lib.hid (by simp), by repeat (first | exact Ext.refl' _ | assumption | apply Ext.ex' | apply Ext.al | apply Ext.drN | apply Ext.dr)⟩
    case round =>
      obtain ⟨k, hk, rfl, HT, hE⟩ := hrel
      by_cases hlt : k < l.length
      · obtain ⟨b, o, rfl, hbw, hc⟩ := ((show Rd w 9 A l.length (evl (l.map (·.1))) from hA).ext hE).ve (by simp) (k := k) (by simpa using hlt)
        simp only [List.getElem_map] at hc
        have HTS := Lib.hid (List.take_succ_eq_append_getElem hlt)
        generalize l[k] = p at hc HTS
        obtain ⟨V, r⟩ := p
        simp only at hc
        have c0 := hc 0 _ rfl
        have c1 := hc 1 _ rfl
        have c2 := hc 2 _ rfl
        have c3 := hc 3 _ rfl
        have c4 := hc 4 _ rfl
        have c5 := hc 5 _ rfl
        have c6 := hc 6 _ rfl
        have c7 := hc 7 _ rfl
        have c8 := hc 8 _ rfl
        simp only [Nat.add_zero] at c0
        clear hc
        by_cases e1 : V.s.2 = 1099511627776
        · by_cases e2 : V.s.1 ≤ x
          · go_wp2
            go_roundw
            case rel => exact ⟨k + 1, by omega, by go_num, Lib.hid (by
              rw [HTS.out]; intro p hp
              rcases List.mem_append.1 hp with h | h
              · exact HT.out p h
              · rw [List.mem_singleton.1 h]; simp only; omega), hE.tr (by repeat (first | exact Ext.refl' _ | assumption | apply Ext.ex' | apply Ext.al | apply Ext.drN | apply Ext.dr))⟩
            case measure => simp [intOf]; omega
          · go_wp2_with (go_at_call 5; (with_reducible refine Calls.mono (works_any _) ?_); rintro e w1 ⟨rfl, hb1⟩; obtain ⟨yw, rfl⟩ := hb1.get; clear hb1)
            go_ret
            exact ⟨rfl, hE.tr (by repeat (first | exact Ext.refl' _ | assumption | apply Ext.ex' | apply Ext.al | apply Ext.drN | apply Ext.dr))⟩
        · by_cases e3 : V.s.2 ≤ x
          · go_wp2
            go_roundw
            case rel => exact ⟨k + 1, by omega, by go_num, Lib.hid (by
              rw [HTS.out]; intro p hp
              rcases List.mem_append.1 hp with h | h
              · exact HT.out p h
              · rw [List.mem_singleton.1 h]; simp only; omega), hE.tr (by repeat (first | exact Ext.refl' _ | assumption | apply Ext.ex' | apply Ext.al | apply Ext.drN | apply Ext.dr))⟩
            case measure => simp [intOf]; omega
          · go_wp2_with (go_at_call 5; (with_reducible refine Calls.mono (works_any _) ?_); rintro e w1 ⟨rfl, hb1⟩; obtain ⟨yw, rfl⟩ := hb1.get; clear hb1)
            go_ret
            exact ⟨rfl, hE.tr (by repeat (first | exact Ext.refl' _ | assumption | apply Ext.ex' | apply Ext.al | apply Ext.drN | apply Ext.dr))⟩
      · have h3 : l.take k = l := List.take_of_length_le (by omega)
        have HT2 := HT.out
        rw [h3] at HT2
        replace HCH := Lib.hid (HCH.out HT2)
        clear HT2 HT h3
        go_wp2_with (first | (go_at_call 10; (refine Calls.mono (HCH.out _ (hE.tr (by repeat (first | exact Ext.refl' _ | assumption | apply Ext.ex' | apply Ext.al | apply Ext.drN | apply Ext.dr)))) ?_); rintro e w1 ⟨A8, c8, rfl, hb1⟩; obtain ⟨x8, rfl⟩ := hb1.get; clear hb1) | (go_at_call 5; (with_reducible refine Calls.mono (works_any _) ?_); rintro e w1 ⟨rfl, hb1⟩; obtain ⟨yw, rfl⟩ := hb1.get; clear hb1))
        go_ret
        exact ⟨rfl, hE.tr (by repeat (first | exact Ext.refl' _ | assumption | apply Ext.ex' | apply Ext.al | apply Ext.drN | apply Ext.dr))⟩
theorem lawNothing_any (A : Option Addr) (c : Nat) (l : List VR) (x : Int) (w : World) (hR : Rd w 9 A l.length (l.flatMap fun p : VR => ev p.1)) (hok : ∀ p ∈ l, VROk w p) (hx : (Lit.int .u16 x).wf = true) :
    Calls Try.prog 4 #[.slice A l.length c, .int .u16 x] w fun e w' => e = .returned (.bool true) ∧ Ext w w' := by
  have h : 0 ≤ x ∧ x ≤ 65535 := by
    simp [Lit.wf] at hx
    exact hx
  exact nothing_any A l.length c l x w rfl (by unfold vev; rw [← vev_flat]; exact hR) hok h.1 h.2

end Go.Proofs.Ytpifjhoelnacgaa
