/- The walk of the law ConflictInstants. -/
import Derived.Test.YtpifjhoelnacgaaCfF
import Derived.Test.YtpifjhoelnacgaaCfCv
set_option linter.unusedSimpArgs false
set_option linter.unusedVariables false
namespace Go.Proofs.Ytpifjhoelnacgaa
open Go.RowKit


set_option maxRecDepth 100000 in
set_option maxHeartbeats 4000000 in
theorem instants_any (A : Option Addr) (n c : Nat) (l : List Acc) (s : ByteArray) (f : Int) (w : World) (hn : n = l.length) (hR : Rd w 3 A n (acl l)) (hl : l.length ≤ 9223372036854775807) (hwf : ∀ a ∈ l, a.1.size ≤ maxLen) (h0 : 0 ≤ f) (h1 : f ≤ 255) :
    Calls Try.prog 3 #[.slice A n c, .string s, .int .u8 f] w fun e w' => e = .returned (.bool true) ∧ Ext w w' := by
  subst hn
  by_cases hbig : 100 < l.length
  · clear hwf
    go_enter Try.func3, Try.ntmps3
    go_wp2_with (go_at_call 5; (with_reducible refine Calls.mono (works_any _) ?_); rintro e w1 ⟨rfl, hb1⟩; obtain ⟨yw, rfl⟩ := hb1.get; clear hb1)
    go_ret
    exact ⟨rfl, by repeat (first | exact Ext.refl' _ | assumption | apply Ext.ex' | apply Ext.al | apply Ext.drN | apply Ext.dr)⟩
  · have HWF := Lib.hid hwf
    have HM := Lib.hid (merge_any A l.length c l w rfl hR (by omega) hwf)
    clear hwf
    go_enter Try.func3, Try.ntmps3
    go_wp2_with (go_at_call 6; (refine Calls.mono HM.out ?_); rintro e W1 ⟨A2, c2, r, rfl, hE1, hR2, hst⟩)
    have hrl := hst.le
    have HST := Lib.hid hst
    clear hst HM
    go_loopw [8] (fun i wr => ∃ k : Nat, k ≤ 20 ∧ i = .int .i64 (f + k) ∧ Ext W1 wr) (fun i _ => ((f + 20) - intOf i).toNat)
    case atStart => exact ⟨0, by omega, by simp, Ext.refl' _⟩
    case round =>
      obtain ⟨k, hk, rfl, hE⟩ := hrel
      by_cases hlt : k < 20
      · have HC1 := Lib.hid (fun w h => covers_any A2 r.length c2 r s (f + k) w rfl h (by omega))
        have HC2 := Lib.hid (fun w h => covers_any A l.length c l s (f + k) w rfl h (by omega))
        rw [HST.out.2 s.data.toList (f + k)] at HC1
        generalize inT l s.data.toList (f + k) = b at HC1 HC2
        rcases b with _ | _
        · go_wp2_with (first | (go_at_call 7; (with_reducible refine Calls.mono (HC1.out _ (hR2.ext (hE.tr (by repeat (first | exact Ext.refl' _ | assumption | apply Ext.ex' | apply Ext.al | apply Ext.drN | apply Ext.dr))))) ?_); rintro e w1 ⟨rfl, hb1⟩; obtain ⟨z1, rfl⟩ := hb1.get; clear hb1) | (go_at_call 7; (with_reducible refine Calls.mono (HC2.out _ (hR.ext (hE1.tr (hE.tr (by repeat (first | exact Ext.refl' _ | assumption | apply Ext.ex' | apply Ext.al | apply Ext.drN | apply Ext.dr)))))) ?_); rintro e w1 ⟨rfl, hb1⟩; obtain ⟨z2, rfl⟩ := hb1.get; clear hb1))
          go_roundw
          case rel => exact ⟨k + 1, by omega, by go_num, hE.tr (by repeat (first | exact Ext.refl' _ | assumption | apply Ext.ex' | apply Ext.al | apply Ext.drN | apply Ext.dr))⟩
          case measure => simp [intOf]; omega
        · go_wp2_with (first | (go_at_call 7; (with_reducible refine Calls.mono (HC1.out _ (hR2.ext (hE.tr (by repeat (first | exact Ext.refl' _ | assumption | apply Ext.ex' | apply Ext.al | apply Ext.drN | apply Ext.dr))))) ?_); rintro e w1 ⟨rfl, hb1⟩; obtain ⟨z1, rfl⟩ := hb1.get; clear hb1) | (go_at_call 7; (with_reducible refine Calls.mono (HC2.out _ (hR.ext (hE1.tr (hE.tr (by repeat (first | exact Ext.refl' _ | assumption | apply Ext.ex' | apply Ext.al | apply Ext.drN | apply Ext.dr)))))) ?_); rintro e w1 ⟨rfl, hb1⟩; obtain ⟨z2, rfl⟩ := hb1.get; clear hb1))
          go_roundw
          case rel => exact ⟨k + 1, by omega, by go_num, hE.tr (by repeat (first | exact Ext.refl' _ | assumption | apply Ext.ex' | apply Ext.al | apply Ext.drN | apply Ext.dr))⟩
          case measure => simp [intOf]; omega
      · have HP : Hid (∀ j (hj : j + 1 < r.length), tb r[j] < tb r[j + 1] ∨ tb r[j] = tb r[j + 1] ∧ r[j].2.2 < r[j + 1].2.1) := Lib.hid (fun j hj => List.pairwise_iff_getElem.1 HST.out.1.2 j (j + 1) (by omega) hj (by omega))
        have HM2 : Hid (∀ W, Rd W 3 A2 r.length (acl r) → Calls Try.prog 6 #[.slice A2 r.length c2] W fun e w' => ∃ A' c', e = .returned (.slice A' r.length c') ∧ Ext W w' ∧ Rd w' 3 A' r.length (acl r)) := Lib.hid (fun W h => by
          refine Calls.mono (merge_any A2 r.length c2 r W rfl h (by omega) (HST.out.wf HWF.out)) ?_
          rintro e w1 ⟨A3, c3, r3, rfl, hb, h3, hst3⟩
          obtain rfl : r3 = r := hst3.eq ⟨HST.out.1, fun _ _ => rfl⟩
          exact ⟨A3, c3, rfl, hb, h3⟩)
        have HS : Hid (∀ A3 c3 W, Rd W 3 A3 r.length (acl r) → Rd W 3 A2 r.length (acl r) → Calls Try.prog 8 #[.slice A3 r.length c3, .slice A2 r.length c2] W fun e w' => e = .returned (.bool true) ∧ Ext W w') := Lib.hid (fun A3 c3 W ha hb => by
          refine Calls.mono (sameA_any A3 A2 r.length r.length c3 c2 r r W rfl rfl ha hb (by omega) (by omega)) ?_
          rintro e w1 ⟨he, hx⟩
          rw [decide_eq_true rfl] at he
          exact ⟨he, hx⟩)
        clear HST
        go_wp2
        go_loopw [9] (fun i wr => ∃ j : Nat, (j + 1 ≤ r.length ∨ j = 0) ∧ i = .int .i64 ((j + 1 : Nat) : Int) ∧ Ext W1 wr) (fun i _ => r.length - (intOf i).toNat)
        case atStart => exact ⟨0, .inr rfl, rfl, hE⟩
        case round =>
          clear hE hlt hk
          obtain ⟨j, hj, rfl, hE2⟩ := hrel
          by_cases hlt : j + 1 < r.length
          · obtain ⟨b2, o2, rfl, hbw, d1, d2, d3⟩ := (hR2.ext hE2).acc rfl hlt
            obtain ⟨b3, o3, hA3, _, d4, d5, d6⟩ := (hR2.ext hE2).acc rfl (show j < r.length by omega)
            injection hA3 with hA3
            injection hA3 with hA3 hA4
            subst hA3 hA4
            have HQ := Lib.hid (HP.out j hlt)
            have q1 := bl_tb r[j + 1] r[j]
            generalize r[j + 1] = u at d1 d2 d3 HQ q1
            generalize r[j] = v at d4 d5 d6 HQ q1
            obtain ⟨t1, u1, u2⟩ := u
            obtain ⟨t2, v1, v2⟩ := v
            simp only at d1 d2 d3 d4 d5 d6 HQ q1
            have hlo : Op.bytesLess t1.toList t2.toList = false := by
              rw [bl_lt, decide_eq_false_iff_not]
              rcases HQ.out with h | ⟨h, _⟩
              · exact fun k => lt_irr _ (List.lt_trans k h)
              · intro k
                have h' : t2.data.toList = t1.data.toList := h
                rw [h'] at k
                exact lt_irr _ k
            have hj1 : (0 : Int) ≤ (j : Int) + 1 := by omega
            have hj0 : (0 : Int) ≤ (j : Int) := by omega
            have hjl : (j : Int) < (r.length : Int) := by omega
            have hwj : IntKind.i64.wrap (j : Int) = (j : Int) := IntWalk.i64_in _ (by omega)
            by_cases hte : tb (t1, u1, u2) = tb (t2, v1, v2)
            · rw [decide_eq_true hte] at q1
              have hlt2 : v2 < u1 := by
                rcases HQ.out with h | ⟨_, h⟩
                · rw [hte] at h; exact absurd h (lt_irr _)
                · exact h
              clear HQ hte
              go_wp2_with fail
              refine wp_region_held_drew (S := (fun w' => w'.cell? ⟨b2, o2 + (j + 1) * 3, none⟩ = some (.string t1) ∧ w'.cell? ⟨b2, o2 + (j + 1) * 3 + 1, none⟩ = some (.int .i64 u1) ∧ w'.cell? ⟨b2, o2 + j * 3, none⟩ = some (.string t2) ∧ w'.cell? ⟨b2, o2 + j * 3 + 2, none⟩ = some (.int .i64 v2))) (by kernel_rfl) (by exact ⟨by assumption, by assumption, by assumption, by assumption⟩) (fun hHeld => ?_)
              refine wpAnyH_take (i := 0) (oi := ?oi1) (v := ?v1) ?hi1 (by kernel_rfl) (by kernel_rfl) (by kernel_rfl) ?hQ1 ?hy1 (by assumption) ?_
              case hi1 => (simp only [List.getElem?_toArray, List.getElem?_cons_succ, List.getElem?_cons_zero]; try rfl)
              case hQ1 => exact fun _ _ _ h => h
              case hy1 => (refine Or.inl ⟨by rfl, ?_⟩; intro wq hSw; (try dsimp only at hSw); go_simp; (try rw [if_pos hj1]); (try simp only [hwj, Int.toNat_natCast]); (try rw [if_pos (And.intro hj0 hjl)]); (try with_reducible rfl))
              (try simp only [Act.put, List.setIfInBounds_toArray, List.set_cons_zero, List.set_cons_succ])
              refine wpAnyH_take (i := 1) (oi := ?oi2) (v := ?v2) ?hi2 (by kernel_rfl) (by kernel_rfl) (by kernel_rfl) ?hQ2 ?hy2 (by assumption) ?_
              case hi2 => (simp only [List.getElem?_toArray, List.getElem?_cons_succ, List.getElem?_cons_zero]; try rfl)
              case hQ2 => exact fun _ _ _ h => h
              case hy2 => (refine Or.inl ⟨by rfl, ?_⟩; intro wq hSw; (try dsimp only at hSw); go_simp; (try rw [if_pos hj1]); (try simp only [hwj, Int.toNat_natCast]); (try rw [if_pos (And.intro hj0 hjl)]); (try with_reducible rfl))
              (try simp only [Act.put, List.setIfInBounds_toArray, List.set_cons_zero, List.set_cons_succ])
              refine wpAnyH_take (i := 2) (oi := ?oi3) (v := ?v3) ?hi3 (by kernel_rfl) (by kernel_rfl) (by kernel_rfl) ?hQ3 ?hy3 (by assumption) ?_
              case hi3 => (simp only [List.getElem?_toArray, List.getElem?_cons_succ, List.getElem?_cons_zero]; try rfl)
              case hQ3 => exact fun _ _ _ h => h
              case hy3 => (refine Or.inl ⟨by rfl, ?_⟩; intro wq hSw; (try dsimp only at hSw); go_simp; (try rw [if_pos hj1]); (try simp only [hwj, Int.toNat_natCast]); (try rw [if_pos (And.intro hj0 hjl)]); (try with_reducible rfl))
              (try simp only [Act.put, List.setIfInBounds_toArray, List.set_cons_zero, List.set_cons_succ])
              refine wpAnyH_take (i := 3) (oi := ?oi4) (v := ?v4) ?hi4 (by kernel_rfl) (by kernel_rfl) (by kernel_rfl) ?hQ4 ?hy4 (by assumption) ?_
              case hi4 => (simp only [List.getElem?_toArray, List.getElem?_cons_succ, List.getElem?_cons_zero]; try rfl)
              case hQ4 => exact fun _ _ _ h => h
              case hy4 => (refine Or.inl ⟨by rfl, ?_⟩; intro wq hSw; (try dsimp only at hSw); go_simp; (try rw [if_pos hj1]); (try simp only [hwj, Int.toNat_natCast]); (try rw [if_pos (And.intro hj0 hjl)]); (try with_reducible rfl))
              (try simp only [Act.put, List.setIfInBounds_toArray, List.set_cons_zero, List.set_cons_succ])
              refine wpAnyH_take (i := 4) (oi := ?oi5) (v := ?v5) ?hi5 (by kernel_rfl) (by kernel_rfl) (by kernel_rfl) ?hQ5 ?hy5 (by assumption) ?_
              case hi5 => (simp only [List.getElem?_toArray, List.getElem?_cons_succ, List.getElem?_cons_zero]; try rfl)
              case hQ5 => exact fun _ _ _ h => h
              case hy5 => (refine Or.inl ⟨by rfl, ?_⟩; intro wq hSw; (try dsimp only at hSw); go_simp; (try rw [if_pos hj1]); (try simp only [hwj, Int.toNat_natCast]); (try rw [if_pos (And.intro hj0 hjl)]); (try with_reducible rfl))
              (try simp only [Act.put, List.setIfInBounds_toArray, List.set_cons_zero, List.set_cons_succ])
              refine wpAnyH_take (i := 5) (oi := ?oi6) (v := ?v6) ?hi6 (by kernel_rfl) (by kernel_rfl) (by kernel_rfl) ?hQ6 ?hy6 (by assumption) ?_
              case hi6 => (simp only [List.getElem?_toArray, List.getElem?_cons_succ, List.getElem?_cons_zero]; try rfl)
              case hQ6 => exact fun _ _ _ h => h
              case hy6 => (refine Or.inl ⟨by rfl, ?_⟩; intro wq hSw; (try dsimp only at hSw); go_simp; (try rw [if_pos hj1]); (try simp only [hwj, Int.toNat_natCast]); (try rw [if_pos (And.intro hj0 hjl)]); (try with_reducible rfl))
              (try simp only [Act.put, List.setIfInBounds_toArray, List.set_cons_zero, List.set_cons_succ])
              refine wpAnyH_take (i := 6) (oi := ?oi7) (v := ?v7) ?hi7 (by kernel_rfl) (by kernel_rfl) (by kernel_rfl) ?hQ7 ?hy7 (by assumption) ?_
              case hi7 => (simp only [List.getElem?_toArray, List.getElem?_cons_succ, List.getElem?_cons_zero]; try rfl)
              case hQ7 => exact fun _ _ _ h => h
              case hy7 => (refine Or.inl ⟨by rfl, ?_⟩; intro wq hSw; (try dsimp only at hSw); go_simp; (try rw [if_pos hj1]); (try simp only [hwj, Int.toNat_natCast]); (try rw [if_pos (And.intro hj0 hjl)]); (try with_reducible rfl))
              (try simp only [Act.put, List.setIfInBounds_toArray, List.set_cons_zero, List.set_cons_succ])
              refine wpAnyH_take (i := 7) (oi := ?oi8) (v := ?v8) ?hi8 (by kernel_rfl) (by kernel_rfl) (by kernel_rfl) ?hQ8 ?hy8 (by assumption) ?_
              case hi8 => (simp only [List.getElem?_toArray, List.getElem?_cons_succ, List.getElem?_cons_zero]; try rfl)
              case hQ8 => exact fun _ _ _ h => h
              case hy8 => (refine Or.inl ⟨by rfl, ?_⟩; intro wq hSw; (try dsimp only at hSw); go_simp; (try rw [if_pos hj1]); (try simp only [hwj, Int.toNat_natCast]); (try rw [if_pos (And.intro hj0 hjl)]); (try with_reducible rfl))
              (try simp only [Act.put, List.setIfInBounds_toArray, List.set_cons_zero, List.set_cons_succ])
              refine wpAnyH_take (i := 8) (oi := ?oi9) (v := ?v9) ?hi9 (by kernel_rfl) (by kernel_rfl) (by kernel_rfl) ?hQ9 ?hy9 (by assumption) ?_
              case hi9 => (simp only [List.getElem?_toArray, List.getElem?_cons_succ, List.getElem?_cons_zero]; try rfl)
              case hQ9 => exact fun _ _ _ h => h
              case hy9 => (refine Or.inl ⟨by rfl, ?_⟩; intro wq hSw; (try dsimp only at hSw); go_simp; (try rw [if_pos hj1]); (try simp only [hwj, Int.toNat_natCast]); (try rw [if_pos (And.intro hj0 hjl)]); (try with_reducible rfl))
              (try simp only [Act.put, List.setIfInBounds_toArray, List.set_cons_zero, List.set_cons_succ])
              refine wpAnyH_take (i := 9) (oi := ?oi10) (v := ?v10) ?hi10 (by kernel_rfl) (by kernel_rfl) (by kernel_rfl) ?hQ10 ?hy10 (by assumption) ?_
              case hi10 => (simp only [List.getElem?_toArray, List.getElem?_cons_succ, List.getElem?_cons_zero]; try rfl)
              case hQ10 => exact fun _ _ _ h => h
              case hy10 => (refine Or.inl ⟨by rfl, ?_⟩; intro wq hSw; (try dsimp only at hSw); go_simp; (try rw [if_pos hj1]); (try simp only [hwj, Int.toNat_natCast]); (try rw [if_pos (And.intro hj0 hjl)]); (try with_reducible rfl))
              (try simp only [Act.put, List.setIfInBounds_toArray, List.set_cons_zero, List.set_cons_succ])
              refine wpAnyH_take (i := 10) (oi := ?oi11) (v := ?v11) ?hi11 (by kernel_rfl) (by kernel_rfl) (by kernel_rfl) ?hQ11 ?hy11 (by assumption) ?_
              case hi11 => (simp only [List.getElem?_toArray, List.getElem?_cons_succ, List.getElem?_cons_zero]; try rfl)
              case hQ11 => exact fun _ _ _ h => h
              case hy11 => (refine Or.inl ⟨by rfl, ?_⟩; intro wq hSw; (try dsimp only at hSw); go_simp; (try rw [if_pos hj1]); (try simp only [hwj, Int.toNat_natCast]); (try rw [if_pos (And.intro hj0 hjl)]); (try with_reducible rfl))
              (try simp only [Act.put, List.setIfInBounds_toArray, List.set_cons_zero, List.set_cons_succ])
              refine wpAnyH_take (i := 11) (oi := ?oi12) (v := ?v12) ?hi12 (by kernel_rfl) (by kernel_rfl) (by kernel_rfl) ?hQ12 ?hy12 (by assumption) ?_
              case hi12 => (simp only [List.getElem?_toArray, List.getElem?_cons_succ, List.getElem?_cons_zero]; try rfl)
              case hQ12 => exact fun _ _ _ h => h
              case hy12 => (refine Or.inl ⟨by rfl, ?_⟩; intro wq hSw; (try dsimp only at hSw); go_simp; (try rw [if_pos hj1]); (try simp only [hwj, Int.toNat_natCast]); (try rw [if_pos (And.intro hj0 hjl)]); (try with_reducible rfl))
              (try simp only [Act.put, List.setIfInBounds_toArray, List.set_cons_zero, List.set_cons_succ])
              refine wpAnyH_take (i := 12) (oi := ?oi13) (v := ?v13) ?hi13 (by kernel_rfl) (by kernel_rfl) (by kernel_rfl) ?hQ13 ?hy13 (by assumption) ?_
              case hi13 => (simp only [List.getElem?_toArray, List.getElem?_cons_succ, List.getElem?_cons_zero]; try rfl)
              case hQ13 => exact fun _ _ _ h => h
              case hy13 => (refine Or.inl ⟨by rfl, ?_⟩; intro wq hSw; (try dsimp only at hSw); go_simp; (try rw [if_pos hj1]); (try simp only [hwj, Int.toNat_natCast]); (try rw [if_pos (And.intro hj0 hjl)]); (try with_reducible rfl))
              (try simp only [Act.put, List.setIfInBounds_toArray, List.set_cons_zero, List.set_cons_succ])
              refine wpAnyH_take (i := 13) (oi := ?oi14) (v := ?v14) ?hi14 (by kernel_rfl) (by kernel_rfl) (by kernel_rfl) ?hQ14 ?hy14 (by assumption) ?_
              case hi14 => (simp only [List.getElem?_toArray, List.getElem?_cons_succ, List.getElem?_cons_zero]; try rfl)
              case hQ14 => exact fun _ _ _ h => h
              case hy14 => (refine Or.inl ⟨by rfl, ?_⟩; intro wq hSw; (try dsimp only at hSw); go_simp; (try rw [if_pos hj1]); (try simp only [hwj, Int.toNat_natCast]); (try rw [if_pos (And.intro hj0 hjl)]); (try with_reducible rfl))
              (try simp only [Act.put, List.setIfInBounds_toArray, List.set_cons_zero, List.set_cons_succ])
              refine wpAnyH_take (i := 14) (oi := ?oi15) (v := ?v15) ?hi15 (by kernel_rfl) (by kernel_rfl) (by kernel_rfl) ?hQ15 ?hy15 (by assumption) ?_
              case hi15 => (simp only [List.getElem?_toArray, List.getElem?_cons_succ, List.getElem?_cons_zero]; try rfl)
              case hQ15 => exact fun _ _ _ h => h
              case hy15 => (refine Or.inl ⟨by rfl, ?_⟩; intro wq hSw; (try dsimp only at hSw); go_simp; (try rw [if_pos hj1]); (try simp only [hwj, Int.toNat_natCast]); (try rw [if_pos (And.intro hj0 hjl)]); (try with_reducible rfl))
              (try simp only [Act.put, List.setIfInBounds_toArray, List.set_cons_zero, List.set_cons_succ])
              refine wpAnyH_take (i := 15) (oi := ?oi16) (v := ?v16) ?hi16 (by kernel_rfl) (by kernel_rfl) (by kernel_rfl) ?hQ16 ?hy16 (by assumption) ?_
              case hi16 => (simp only [List.getElem?_toArray, List.getElem?_cons_succ, List.getElem?_cons_zero]; try rfl)
              case hQ16 => exact fun _ _ _ h => h
              case hy16 => (refine Or.inl ⟨by rfl, ?_⟩; intro wq hSw; (try dsimp only at hSw); go_simp; (try rw [if_pos hj1]); (try simp only [hwj, Int.toNat_natCast]); (try rw [if_pos (And.intro hj0 hjl)]); (try with_reducible rfl))
              (try simp only [Act.put, List.setIfInBounds_toArray, List.set_cons_zero, List.set_cons_succ])
              refine wpAnyH_take (i := 16) (oi := ?oi17) (v := ?v17) ?hi17 (by kernel_rfl) (by kernel_rfl) (by kernel_rfl) ?hQ17 ?hy17 (by assumption) ?_
              case hi17 => (simp only [List.getElem?_toArray, List.getElem?_cons_succ, List.getElem?_cons_zero]; try rfl)
              case hQ17 => exact fun _ _ _ h => h
              case hy17 => (refine Or.inl ⟨by rfl, ?_⟩; intro wq hSw; (try dsimp only at hSw); go_simp; (try rw [if_pos hj1]); (try simp only [hwj, Int.toNat_natCast]); (try rw [if_pos (And.intro hj0 hjl)]); (try with_reducible rfl))
              (try simp only [Act.put, List.setIfInBounds_toArray, List.set_cons_zero, List.set_cons_succ])
              refine wpAnyH_take (i := 17) (oi := ?oi18) (v := ?v18) ?hi18 (by kernel_rfl) (by kernel_rfl) (by kernel_rfl) ?hQ18 ?hy18 (by assumption) ?_
              case hi18 => (simp only [List.getElem?_toArray, List.getElem?_cons_succ, List.getElem?_cons_zero]; try rfl)
              case hQ18 => exact fun _ _ _ h => h
              case hy18 => (refine Or.inl ⟨by rfl, ?_⟩; intro wq hSw; (try dsimp only at hSw); go_simp; (try rw [if_pos hj1]); (try simp only [hwj, Int.toNat_natCast]); (try rw [if_pos (And.intro hj0 hjl)]); (try with_reducible rfl))
              (try simp only [Act.put, List.setIfInBounds_toArray, List.set_cons_zero, List.set_cons_succ])
              refine wpAnyH_take (i := 18) (oi := ?oi19) (v := ?v19) ?hi19 (by kernel_rfl) (by kernel_rfl) (by kernel_rfl) ?hQ19 ?hy19 (by assumption) ?_
              case hi19 => (simp only [List.getElem?_toArray, List.getElem?_cons_succ, List.getElem?_cons_zero]; try rfl)
              case hQ19 => exact fun _ _ _ h => h
              case hy19 => (refine Or.inl ⟨by rfl, ?_⟩; intro wq hSw; (try dsimp only at hSw); go_simp; (try rw [if_pos hj1]); (try simp only [hwj, Int.toNat_natCast]); (try rw [if_pos (And.intro hj0 hjl)]); (try with_reducible rfl))
              (try simp only [Act.put, List.setIfInBounds_toArray, List.set_cons_zero, List.set_cons_succ])
              refine wpAnyH_take (i := 19) (oi := ?oi20) (v := ?v20) ?hi20 (by kernel_rfl) (by kernel_rfl) (by kernel_rfl) ?hQ20 ?hy20 (by assumption) ?_
              case hi20 => (simp only [List.getElem?_toArray, List.getElem?_cons_succ, List.getElem?_cons_zero]; try rfl)
              case hQ20 => exact fun _ _ _ h => h
              case hy20 => (refine Or.inl ⟨by rfl, ?_⟩; intro wq hSw; (try dsimp only at hSw); go_simp; (try rw [if_pos hj1]); (try simp only [hwj, Int.toNat_natCast]); (try rw [if_pos (And.intro hj0 hjl)]); (try with_reducible rfl))
              (try simp only [Act.put, List.setIfInBounds_toArray, List.set_cons_zero, List.set_cons_succ])
              refine wpAnyH_take (i := 20) (oi := ?oi21) (v := ?v21) ?hi21 (by kernel_rfl) (by kernel_rfl) (by kernel_rfl) ?hQ21 ?hy21 (by assumption) ?_
              case hi21 => (simp only [List.getElem?_toArray, List.getElem?_cons_succ, List.getElem?_cons_zero]; try rfl)
              case hQ21 => exact fun _ _ _ h => h
              case hy21 => (refine Or.inl ⟨by rfl, ?_⟩; intro wq hSw; (try dsimp only at hSw); go_simp; (try rw [if_pos hj1]); (try simp only [hwj, Int.toNat_natCast]); (try rw [if_pos (And.intro hj0 hjl)]); (try with_reducible rfl))
              (try simp only [Act.put, List.setIfInBounds_toArray, List.set_cons_zero, List.set_cons_succ])
              refine wpAnyH_take (i := 21) (oi := ?oi22) (v := ?v22) ?hi22 (by kernel_rfl) (by kernel_rfl) (by kernel_rfl) ?hQ22 ?hy22 (by assumption) ?_
              case hi22 => (simp only [List.getElem?_toArray, List.getElem?_cons_succ, List.getElem?_cons_zero]; try rfl)
              case hQ22 => exact fun _ _ _ h => h
              case hy22 => (refine Or.inl ⟨by rfl, ?_⟩; intro wq hSw; (try dsimp only at hSw); go_simp; (try rw [if_pos hj1]); (try simp only [hwj, Int.toNat_natCast]); (try rw [if_pos (And.intro hj0 hjl)]); (try with_reducible rfl))
              (try simp only [Act.put, List.setIfInBounds_toArray, List.set_cons_zero, List.set_cons_succ])
              refine wpAnyH_take (i := 22) (oi := ?oi23) (v := ?v23) ?hi23 (by kernel_rfl) (by kernel_rfl) (by kernel_rfl) ?hQ23 ?hy23 (by assumption) ?_
              case hi23 => (simp only [List.getElem?_toArray, List.getElem?_cons_succ, List.getElem?_cons_zero]; try rfl)
              case hQ23 => exact fun _ _ _ h => h
              case hy23 => (refine Or.inl ⟨by rfl, ?_⟩; intro wq hSw; (try dsimp only at hSw); go_simp; (try rw [if_pos hj1]); (try simp only [hwj, Int.toNat_natCast]); (try rw [if_pos (And.intro hj0 hjl)]); (try with_reducible rfl))
              (try simp only [Act.put, List.setIfInBounds_toArray, List.set_cons_zero, List.set_cons_succ])
              refine wpAnyH_take (i := 23) (oi := ?oi24) (v := ?v24) ?hi24 (by kernel_rfl) (by kernel_rfl) (by kernel_rfl) ?hQ24 ?hy24 (by assumption) ?_
              case hi24 => (simp only [List.getElem?_toArray, List.getElem?_cons_succ, List.getElem?_cons_zero]; try rfl)
              case hQ24 => exact fun _ _ _ h => h
              case hy24 => (refine Or.inl ⟨by rfl, ?_⟩; intro wq hSw; (try dsimp only at hSw); go_simp; (try rw [if_pos hj1]); (try simp only [hwj, Int.toNat_natCast]); (try rw [if_pos (And.intro hj0 hjl)]); (try with_reducible rfl))
              (try simp only [Act.put, List.setIfInBounds_toArray, List.set_cons_zero, List.set_cons_succ])
              refine wpAnyH_take (i := 24) (oi := ?oi25) (v := ?v25) ?hi25 (by kernel_rfl) (by kernel_rfl) (by kernel_rfl) ?hQ25 ?hy25 (by assumption) ?_
              case hi25 => (simp only [List.getElem?_toArray, List.getElem?_cons_succ, List.getElem?_cons_zero]; try rfl)
              case hQ25 => exact fun _ _ _ h => h
              case hy25 => (refine Or.inl ⟨by rfl, ?_⟩; intro wq hSw; (try dsimp only at hSw); go_simp; (try rw [if_pos hj1]); (try simp only [hwj, Int.toNat_natCast]); (try rw [if_pos (And.intro hj0 hjl)]); (try with_reducible rfl))
              (try simp only [Act.put, List.setIfInBounds_toArray, List.set_cons_zero, List.set_cons_succ])
              refine wpAnyH_take (i := 25) (oi := ?oi26) (v := ?v26) ?hi26 (by kernel_rfl) (by kernel_rfl) (by kernel_rfl) ?hQ26 ?hy26 (by assumption) ?_
              case hi26 => (simp only [List.getElem?_toArray, List.getElem?_cons_succ, List.getElem?_cons_zero]; try rfl)
              case hQ26 => exact fun _ _ _ h => h
              case hy26 => (refine Or.inl ⟨by rfl, ?_⟩; intro wq hSw; (try dsimp only at hSw); go_simp; (try rw [if_pos hj1]); (try simp only [hwj, Int.toNat_natCast]); (try rw [if_pos (And.intro hj0 hjl)]); (try with_reducible rfl))
              (try simp only [Act.put, List.setIfInBounds_toArray, List.set_cons_zero, List.set_cons_succ])
              refine wpAnyH_take (i := 26) (oi := ?oi27) (v := ?v27) ?hi27 (by kernel_rfl) (by kernel_rfl) (by kernel_rfl) ?hQ27 ?hy27 (by assumption) ?_
              case hi27 => (simp only [List.getElem?_toArray, List.getElem?_cons_succ, List.getElem?_cons_zero]; try rfl)
              case hQ27 => exact fun _ _ _ h => h
              case hy27 => (refine Or.inl ⟨by rfl, ?_⟩; intro wq hSw; (try dsimp only at hSw); go_simp; (try rw [if_pos hj1]); (try simp only [hwj, Int.toNat_natCast]); (try rw [if_pos (And.intro hj0 hjl)]); (try with_reducible rfl))
              (try simp only [Act.put, List.setIfInBounds_toArray, List.set_cons_zero, List.set_cons_succ])
              refine wpAnyH_take (i := 27) (oi := ?oi28) (v := ?v28) ?hi28 (by kernel_rfl) (by kernel_rfl) (by kernel_rfl) ?hQ28 ?hy28 (by assumption) ?_
              case hi28 => (simp only [List.getElem?_toArray, List.getElem?_cons_succ, List.getElem?_cons_zero]; try rfl)
              case hQ28 => exact fun _ _ _ h => h
              case hy28 => (refine Or.inl ⟨by rfl, ?_⟩; intro wq hSw; (try dsimp only at hSw); go_simp; (try rw [if_pos hj1]); (try simp only [hwj, Int.toNat_natCast]); (try rw [if_pos (And.intro hj0 hjl)]); (try with_reducible rfl))
              (try simp only [Act.put, List.setIfInBounds_toArray, List.set_cons_zero, List.set_cons_succ])
              refine wpAnyH_take (i := 28) (oi := ?oi29) (v := ?v29) ?hi29 (by kernel_rfl) (by kernel_rfl) (by kernel_rfl) ?hQ29 ?hy29 (by assumption) ?_
              case hi29 => (simp only [List.getElem?_toArray, List.getElem?_cons_succ, List.getElem?_cons_zero]; try rfl)
              case hQ29 => exact fun _ _ _ h => h
              case hy29 => (refine Or.inl ⟨by rfl, ?_⟩; intro wq hSw; (try dsimp only at hSw); go_simp; (try rw [if_pos hj1]); (try simp only [hwj, Int.toNat_natCast]); (try rw [if_pos (And.intro hj0 hjl)]); (try with_reducible rfl))
              (try simp only [Act.put, List.setIfInBounds_toArray, List.set_cons_zero, List.set_cons_succ])
              refine wpAnyH_take (i := 29) (oi := ?oi30) (v := ?v30) ?hi30 (by kernel_rfl) (by kernel_rfl) (by kernel_rfl) ?hQ30 ?hy30 (by assumption) ?_
              case hi30 => (simp only [List.getElem?_toArray, List.getElem?_cons_succ, List.getElem?_cons_zero]; try rfl)
              case hQ30 => exact fun _ _ _ h => h
              case hy30 => (refine Or.inl ⟨by rfl, ?_⟩; intro wq hSw; (try dsimp only at hSw); go_simp; (try rw [if_pos hj1]); (try simp only [hwj, Int.toNat_natCast]); (try rw [if_pos (And.intro hj0 hjl)]); (try with_reducible rfl))
              (try simp only [Act.put, List.setIfInBounds_toArray, List.set_cons_zero, List.set_cons_succ])
              refine wpAnyH_take (i := 30) (oi := ?oi31) (v := ?v31) ?hi31 (by kernel_rfl) (by kernel_rfl) (by kernel_rfl) ?hQ31 ?hy31 (by assumption) ?_
              case hi31 => (simp only [List.getElem?_toArray, List.getElem?_cons_succ, List.getElem?_cons_zero]; try rfl)
              case hQ31 => exact fun _ _ _ h => h
              case hy31 => (refine Or.inl ⟨by rfl, ?_⟩; intro wq hSw; (try dsimp only at hSw); go_simp; (try rw [if_pos hj1]); (try simp only [hwj, Int.toNat_natCast]); (try rw [if_pos (And.intro hj0 hjl)]); (try with_reducible rfl))
              (try simp only [Act.put, List.setIfInBounds_toArray, List.set_cons_zero, List.set_cons_succ])
              refine wpAnyH_take (i := 31) (oi := ?oi32) (v := ?v32) ?hi32 (by kernel_rfl) (by kernel_rfl) (by kernel_rfl) ?hQ32 ?hy32 (by assumption) ?_
              case hi32 => (simp only [List.getElem?_toArray, List.getElem?_cons_succ, List.getElem?_cons_zero]; try rfl)
              case hQ32 => exact fun _ _ _ h => h
              case hy32 => (refine Or.inl ⟨by rfl, ?_⟩; intro wq hSw; (try dsimp only at hSw); go_simp; (try rw [if_pos hj1]); (try simp only [hwj, Int.toNat_natCast]); (try rw [if_pos (And.intro hj0 hjl)]); (try with_reducible rfl))
              (try simp only [Act.put, List.setIfInBounds_toArray, List.set_cons_zero, List.set_cons_succ])
              refine wpAnyH_take (i := 32) (oi := ?oi33) (v := ?v33) ?hi33 (by kernel_rfl) (by kernel_rfl) (by kernel_rfl) ?hQ33 ?hy33 (by assumption) ?_
              case hi33 => (simp only [List.getElem?_toArray, List.getElem?_cons_succ, List.getElem?_cons_zero]; try rfl)
              case hQ33 => exact fun _ _ _ h => h
              case hy33 => (refine Or.inl ⟨by rfl, ?_⟩; intro wq hSw; (try dsimp only at hSw); go_simp; (try rw [if_pos hj1]); (try simp only [hwj, Int.toNat_natCast]); (try rw [if_pos (And.intro hj0 hjl)]); (try with_reducible rfl))
              (try simp only [Act.put, List.setIfInBounds_toArray, List.set_cons_zero, List.set_cons_succ])
              refine wpAnyH_take (i := 33) (oi := ?oi34) (v := ?v34) ?hi34 (by kernel_rfl) (by kernel_rfl) (by kernel_rfl) ?hQ34 ?hy34 (by assumption) ?_
              case hi34 => (simp only [List.getElem?_toArray, List.getElem?_cons_succ, List.getElem?_cons_zero]; try rfl)
              case hQ34 => exact fun _ _ _ h => h
              case hy34 => (refine Or.inl ⟨by rfl, ?_⟩; intro wq hSw; (try dsimp only at hSw); go_simp; (try rw [if_pos hj1]); (try simp only [hwj, Int.toNat_natCast]); (try rw [if_pos (And.intro hj0 hjl)]); (try with_reducible rfl))
              (try simp only [Act.put, List.setIfInBounds_toArray, List.set_cons_zero, List.set_cons_succ])
              refine wpAnyH_take (i := 34) (oi := ?oi35) (v := ?v35) ?hi35 (by kernel_rfl) (by kernel_rfl) (by kernel_rfl) ?hQ35 ?hy35 (by assumption) ?_
              case hi35 => (simp only [List.getElem?_toArray, List.getElem?_cons_succ, List.getElem?_cons_zero]; try rfl)
              case hQ35 => exact fun _ _ _ h => h
              case hy35 => (refine Or.inl ⟨by rfl, ?_⟩; intro wq hSw; (try dsimp only at hSw); go_simp; (try rw [if_pos hj1]); (try simp only [hwj, Int.toNat_natCast]); (try rw [if_pos (And.intro hj0 hjl)]); (try with_reducible rfl))
              (try simp only [Act.put, List.setIfInBounds_toArray, List.set_cons_zero, List.set_cons_succ])
              refine wpAnyH_take (i := 35) (oi := ?oi36) (v := ?v36) ?hi36 (by kernel_rfl) (by kernel_rfl) (by kernel_rfl) ?hQ36 ?hy36 (by assumption) ?_
              case hi36 => (simp only [List.getElem?_toArray, List.getElem?_cons_succ, List.getElem?_cons_zero]; try rfl)
              case hQ36 => exact fun _ _ _ h => h
              case hy36 => (refine Or.inl ⟨by rfl, ?_⟩; intro wq hSw; (try dsimp only at hSw); go_simp; (try rw [if_pos hj1]); (try simp only [hwj, Int.toNat_natCast]); (try rw [if_pos (And.intro hj0 hjl)]); (try with_reducible rfl))
              (try simp only [Act.put, List.setIfInBounds_toArray, List.set_cons_zero, List.set_cons_succ])
              refine wpAnyH_take (i := 36) (oi := ?oi37) (v := ?v37) ?hi37 (by kernel_rfl) (by kernel_rfl) (by kernel_rfl) ?hQ37 ?hy37 (by assumption) ?_
              case hi37 => (simp only [List.getElem?_toArray, List.getElem?_cons_succ, List.getElem?_cons_zero]; try rfl)
              case hQ37 => exact fun _ _ _ h => h
              case hy37 => (refine Or.inl ⟨by rfl, ?_⟩; intro wq hSw; (try dsimp only at hSw); go_simp; (try rw [if_pos hj1]); (try simp only [hwj, Int.toNat_natCast]); (try rw [if_pos (And.intro hj0 hjl)]); (try with_reducible rfl))
              (try simp only [Act.put, List.setIfInBounds_toArray, List.set_cons_zero, List.set_cons_succ])
              refine wpAnyH_take (i := 37) (oi := ?oi38) (v := ?v38) ?hi38 (by kernel_rfl) (by kernel_rfl) (by kernel_rfl) ?hQ38 ?hy38 (by assumption) ?_
              case hi38 => (simp only [List.getElem?_toArray, List.getElem?_cons_succ, List.getElem?_cons_zero]; try rfl)
              case hQ38 => exact fun _ _ _ h => h
              case hy38 => (refine Or.inl ⟨by rfl, ?_⟩; intro wq hSw; (try dsimp only at hSw); go_simp; (try rw [if_pos hj1]); (try simp only [hwj, Int.toNat_natCast]); (try rw [if_pos (And.intro hj0 hjl)]); (try with_reducible rfl))
              (try simp only [Act.put, List.setIfInBounds_toArray, List.set_cons_zero, List.set_cons_succ])
              refine wpAnyH_take (i := 38) (oi := ?oi39) (v := ?v39) ?hi39 (by kernel_rfl) (by kernel_rfl) (by kernel_rfl) ?hQ39 ?hy39 (by assumption) ?_
              case hi39 => (simp only [List.getElem?_toArray, List.getElem?_cons_succ, List.getElem?_cons_zero]; try rfl)
              case hQ39 => exact fun _ _ _ h => h
              case hy39 => (refine Or.inl ⟨by rfl, ?_⟩; intro wq hSw; (try dsimp only at hSw); go_simp; (try rw [if_pos hj1]); (try simp only [hwj, Int.toNat_natCast]); (try rw [if_pos (And.intro hj0 hjl)]); (try with_reducible rfl))
              (try simp only [Act.put, List.setIfInBounds_toArray, List.set_cons_zero, List.set_cons_succ])
              refine wpAnyH_take (i := 39) (oi := ?oi40) (v := ?v40) ?hi40 (by kernel_rfl) (by kernel_rfl) (by kernel_rfl) ?hQ40 ?hy40 (by assumption) ?_
              case hi40 => (simp only [List.getElem?_toArray, List.getElem?_cons_succ, List.getElem?_cons_zero]; try rfl)
              case hQ40 => exact fun _ _ _ h => h
              case hy40 => (refine Or.inl ⟨by rfl, ?_⟩; intro wq hSw; (try dsimp only at hSw); go_simp; (try rw [if_pos hj1]); (try simp only [hwj, Int.toNat_natCast]); (try rw [if_pos (And.intro hj0 hjl)]); (try with_reducible rfl))
              (try simp only [Act.put, List.setIfInBounds_toArray, List.set_cons_zero, List.set_cons_succ])
              refine wpAnyH_take (i := 40) (oi := ?oi41) (v := ?v41) ?hi41 (by kernel_rfl) (by kernel_rfl) (by kernel_rfl) ?hQ41 ?hy41 (by assumption) ?_
              case hi41 => (simp only [List.getElem?_toArray, List.getElem?_cons_succ, List.getElem?_cons_zero]; try rfl)
              case hQ41 => exact fun _ _ _ h => h
              case hy41 => (refine Or.inl ⟨by rfl, ?_⟩; intro wq hSw; (try dsimp only at hSw); go_simp; (try rw [if_pos hj1]); (try simp only [hwj, Int.toNat_natCast]); (try rw [if_pos (And.intro hj0 hjl)]); (try with_reducible rfl))
              (try simp only [Act.put, List.setIfInBounds_toArray, List.set_cons_zero, List.set_cons_succ])
              refine wpAnyH_take (i := 41) (oi := ?oi42) (v := ?v42) ?hi42 (by kernel_rfl) (by kernel_rfl) (by kernel_rfl) ?hQ42 ?hy42 (by assumption) ?_
              case hi42 => (simp only [List.getElem?_toArray, List.getElem?_cons_succ, List.getElem?_cons_zero]; try rfl)
              case hQ42 => exact fun _ _ _ h => h
              case hy42 => (refine Or.inl ⟨by rfl, ?_⟩; intro wq hSw; (try dsimp only at hSw); go_simp; (try rw [if_pos hj1]); (try simp only [hwj, Int.toNat_natCast]); (try rw [if_pos (And.intro hj0 hjl)]); (try with_reducible rfl))
              (try simp only [Act.put, List.setIfInBounds_toArray, List.set_cons_zero, List.set_cons_succ])
              refine wpAnyH_done (by kernel_rfl) ?_ _
              go_wp2
              go_roundw
              case rel => exact ⟨j + 1, .inl (by omega), by go_num, hE2.tr (by repeat (first | exact Ext.refl' _ | assumption | apply Ext.ex' | apply Ext.al | apply Ext.drN | apply Ext.dr))⟩
              case measure => simp [intOf]; omega
            · rw [decide_eq_false hte] at q1
              clear HQ hte
              go_wp2_with fail
              refine wp_region_held_drew (S := (fun w' => w'.cell? ⟨b2, o2 + (j + 1) * 3, none⟩ = some (.string t1) ∧ w'.cell? ⟨b2, o2 + (j + 1) * 3 + 1, none⟩ = some (.int .i64 u1) ∧ w'.cell? ⟨b2, o2 + j * 3, none⟩ = some (.string t2) ∧ w'.cell? ⟨b2, o2 + j * 3 + 2, none⟩ = some (.int .i64 v2))) (by kernel_rfl) (by exact ⟨by assumption, by assumption, by assumption, by assumption⟩) (fun hHeld => ?_)
              refine wpAnyH_take (i := 0) (oi := ?oi501) (v := ?v501) ?hi501 (by kernel_rfl) (by kernel_rfl) (by kernel_rfl) ?hQ501 ?hy501 (by assumption) ?_
              case hi501 => (simp only [List.getElem?_toArray, List.getElem?_cons_succ, List.getElem?_cons_zero]; try rfl)
              case hQ501 => exact fun _ _ _ h => h
              case hy501 => (refine Or.inl ⟨by rfl, ?_⟩; intro wq hSw; (try dsimp only at hSw); go_simp; (try rw [if_pos hj1]); (try simp only [hwj, Int.toNat_natCast]); (try rw [if_pos (And.intro hj0 hjl)]); (try with_reducible rfl))
              (try simp only [Act.put, List.setIfInBounds_toArray, List.set_cons_zero, List.set_cons_succ])
              refine wpAnyH_take (i := 1) (oi := ?oi502) (v := ?v502) ?hi502 (by kernel_rfl) (by kernel_rfl) (by kernel_rfl) ?hQ502 ?hy502 (by assumption) ?_
              case hi502 => (simp only [List.getElem?_toArray, List.getElem?_cons_succ, List.getElem?_cons_zero]; try rfl)
              case hQ502 => exact fun _ _ _ h => h
              case hy502 => (refine Or.inl ⟨by rfl, ?_⟩; intro wq hSw; (try dsimp only at hSw); go_simp; (try rw [if_pos hj1]); (try simp only [hwj, Int.toNat_natCast]); (try rw [if_pos (And.intro hj0 hjl)]); (try with_reducible rfl))
              (try simp only [Act.put, List.setIfInBounds_toArray, List.set_cons_zero, List.set_cons_succ])
              refine wpAnyH_take (i := 2) (oi := ?oi503) (v := ?v503) ?hi503 (by kernel_rfl) (by kernel_rfl) (by kernel_rfl) ?hQ503 ?hy503 (by assumption) ?_
              case hi503 => (simp only [List.getElem?_toArray, List.getElem?_cons_succ, List.getElem?_cons_zero]; try rfl)
              case hQ503 => exact fun _ _ _ h => h
              case hy503 => (refine Or.inl ⟨by rfl, ?_⟩; intro wq hSw; (try dsimp only at hSw); go_simp; (try rw [if_pos hj1]); (try simp only [hwj, Int.toNat_natCast]); (try rw [if_pos (And.intro hj0 hjl)]); (try with_reducible rfl))
              (try simp only [Act.put, List.setIfInBounds_toArray, List.set_cons_zero, List.set_cons_succ])
              refine wpAnyH_take (i := 3) (oi := ?oi504) (v := ?v504) ?hi504 (by kernel_rfl) (by kernel_rfl) (by kernel_rfl) ?hQ504 ?hy504 (by assumption) ?_
              case hi504 => (simp only [List.getElem?_toArray, List.getElem?_cons_succ, List.getElem?_cons_zero]; try rfl)
              case hQ504 => exact fun _ _ _ h => h
              case hy504 => (refine Or.inl ⟨by rfl, ?_⟩; intro wq hSw; (try dsimp only at hSw); go_simp; (try rw [if_pos hj1]); (try simp only [hwj, Int.toNat_natCast]); (try rw [if_pos (And.intro hj0 hjl)]); (try with_reducible rfl))
              (try simp only [Act.put, List.setIfInBounds_toArray, List.set_cons_zero, List.set_cons_succ])
              refine wpAnyH_take (i := 4) (oi := ?oi505) (v := ?v505) ?hi505 (by kernel_rfl) (by kernel_rfl) (by kernel_rfl) ?hQ505 ?hy505 (by assumption) ?_
              case hi505 => (simp only [List.getElem?_toArray, List.getElem?_cons_succ, List.getElem?_cons_zero]; try rfl)
              case hQ505 => exact fun _ _ _ h => h
              case hy505 => (refine Or.inl ⟨by rfl, ?_⟩; intro wq hSw; (try dsimp only at hSw); go_simp; (try rw [if_pos hj1]); (try simp only [hwj, Int.toNat_natCast]); (try rw [if_pos (And.intro hj0 hjl)]); (try with_reducible rfl))
              (try simp only [Act.put, List.setIfInBounds_toArray, List.set_cons_zero, List.set_cons_succ])
              refine wpAnyH_take (i := 5) (oi := ?oi506) (v := ?v506) ?hi506 (by kernel_rfl) (by kernel_rfl) (by kernel_rfl) ?hQ506 ?hy506 (by assumption) ?_
              case hi506 => (simp only [List.getElem?_toArray, List.getElem?_cons_succ, List.getElem?_cons_zero]; try rfl)
              case hQ506 => exact fun _ _ _ h => h
              case hy506 => (refine Or.inl ⟨by rfl, ?_⟩; intro wq hSw; (try dsimp only at hSw); go_simp; (try rw [if_pos hj1]); (try simp only [hwj, Int.toNat_natCast]); (try rw [if_pos (And.intro hj0 hjl)]); (try with_reducible rfl))
              (try simp only [Act.put, List.setIfInBounds_toArray, List.set_cons_zero, List.set_cons_succ])
              refine wpAnyH_take (i := 6) (oi := ?oi507) (v := ?v507) ?hi507 (by kernel_rfl) (by kernel_rfl) (by kernel_rfl) ?hQ507 ?hy507 (by assumption) ?_
              case hi507 => (simp only [List.getElem?_toArray, List.getElem?_cons_succ, List.getElem?_cons_zero]; try rfl)
              case hQ507 => exact fun _ _ _ h => h
              case hy507 => (refine Or.inl ⟨by rfl, ?_⟩; intro wq hSw; (try dsimp only at hSw); go_simp; (try rw [if_pos hj1]); (try simp only [hwj, Int.toNat_natCast]); (try rw [if_pos (And.intro hj0 hjl)]); (try with_reducible rfl))
              (try simp only [Act.put, List.setIfInBounds_toArray, List.set_cons_zero, List.set_cons_succ])
              refine wpAnyH_take (i := 7) (oi := ?oi508) (v := ?v508) ?hi508 (by kernel_rfl) (by kernel_rfl) (by kernel_rfl) ?hQ508 ?hy508 (by assumption) ?_
              case hi508 => (simp only [List.getElem?_toArray, List.getElem?_cons_succ, List.getElem?_cons_zero]; try rfl)
              case hQ508 => exact fun _ _ _ h => h
              case hy508 => (refine Or.inl ⟨by rfl, ?_⟩; intro wq hSw; (try dsimp only at hSw); go_simp; (try rw [if_pos hj1]); (try simp only [hwj, Int.toNat_natCast]); (try rw [if_pos (And.intro hj0 hjl)]); (try with_reducible rfl))
              (try simp only [Act.put, List.setIfInBounds_toArray, List.set_cons_zero, List.set_cons_succ])
              refine wpAnyH_take (i := 8) (oi := ?oi509) (v := ?v509) ?hi509 (by kernel_rfl) (by kernel_rfl) (by kernel_rfl) ?hQ509 ?hy509 (by assumption) ?_
              case hi509 => (simp only [List.getElem?_toArray, List.getElem?_cons_succ, List.getElem?_cons_zero]; try rfl)
              case hQ509 => exact fun _ _ _ h => h
              case hy509 => (refine Or.inl ⟨by rfl, ?_⟩; intro wq hSw; (try dsimp only at hSw); go_simp; (try rw [if_pos hj1]); (try simp only [hwj, Int.toNat_natCast]); (try rw [if_pos (And.intro hj0 hjl)]); (try with_reducible rfl))
              (try simp only [Act.put, List.setIfInBounds_toArray, List.set_cons_zero, List.set_cons_succ])
              refine wpAnyH_take (i := 9) (oi := ?oi510) (v := ?v510) ?hi510 (by kernel_rfl) (by kernel_rfl) (by kernel_rfl) ?hQ510 ?hy510 (by assumption) ?_
              case hi510 => (simp only [List.getElem?_toArray, List.getElem?_cons_succ, List.getElem?_cons_zero]; try rfl)
              case hQ510 => exact fun _ _ _ h => h
              case hy510 => (refine Or.inl ⟨by rfl, ?_⟩; intro wq hSw; (try dsimp only at hSw); go_simp; (try rw [if_pos hj1]); (try simp only [hwj, Int.toNat_natCast]); (try rw [if_pos (And.intro hj0 hjl)]); (try with_reducible rfl))
              (try simp only [Act.put, List.setIfInBounds_toArray, List.set_cons_zero, List.set_cons_succ])
              refine wpAnyH_take (i := 10) (oi := ?oi511) (v := ?v511) ?hi511 (by kernel_rfl) (by kernel_rfl) (by kernel_rfl) ?hQ511 ?hy511 (by assumption) ?_
              case hi511 => (simp only [List.getElem?_toArray, List.getElem?_cons_succ, List.getElem?_cons_zero]; try rfl)
              case hQ511 => exact fun _ _ _ h => h
              case hy511 => (refine Or.inl ⟨by rfl, ?_⟩; intro wq hSw; (try dsimp only at hSw); go_simp; (try rw [if_pos hj1]); (try simp only [hwj, Int.toNat_natCast]); (try rw [if_pos (And.intro hj0 hjl)]); (try with_reducible rfl))
              (try simp only [Act.put, List.setIfInBounds_toArray, List.set_cons_zero, List.set_cons_succ])
              refine wpAnyH_take (i := 11) (oi := ?oi512) (v := ?v512) ?hi512 (by kernel_rfl) (by kernel_rfl) (by kernel_rfl) ?hQ512 ?hy512 (by assumption) ?_
              case hi512 => (simp only [List.getElem?_toArray, List.getElem?_cons_succ, List.getElem?_cons_zero]; try rfl)
              case hQ512 => exact fun _ _ _ h => h
              case hy512 => (refine Or.inl ⟨by rfl, ?_⟩; intro wq hSw; (try dsimp only at hSw); go_simp; (try rw [if_pos hj1]); (try simp only [hwj, Int.toNat_natCast]); (try rw [if_pos (And.intro hj0 hjl)]); (try with_reducible rfl))
              (try simp only [Act.put, List.setIfInBounds_toArray, List.set_cons_zero, List.set_cons_succ])
              refine wpAnyH_take (i := 12) (oi := ?oi513) (v := ?v513) ?hi513 (by kernel_rfl) (by kernel_rfl) (by kernel_rfl) ?hQ513 ?hy513 (by assumption) ?_
              case hi513 => (simp only [List.getElem?_toArray, List.getElem?_cons_succ, List.getElem?_cons_zero]; try rfl)
              case hQ513 => exact fun _ _ _ h => h
              case hy513 => (refine Or.inl ⟨by rfl, ?_⟩; intro wq hSw; (try dsimp only at hSw); go_simp; (try rw [if_pos hj1]); (try simp only [hwj, Int.toNat_natCast]); (try rw [if_pos (And.intro hj0 hjl)]); (try with_reducible rfl))
              (try simp only [Act.put, List.setIfInBounds_toArray, List.set_cons_zero, List.set_cons_succ])
              refine wpAnyH_take (i := 13) (oi := ?oi514) (v := ?v514) ?hi514 (by kernel_rfl) (by kernel_rfl) (by kernel_rfl) ?hQ514 ?hy514 (by assumption) ?_
              case hi514 => (simp only [List.getElem?_toArray, List.getElem?_cons_succ, List.getElem?_cons_zero]; try rfl)
              case hQ514 => exact fun _ _ _ h => h
              case hy514 => (refine Or.inl ⟨by rfl, ?_⟩; intro wq hSw; (try dsimp only at hSw); go_simp; (try rw [if_pos hj1]); (try simp only [hwj, Int.toNat_natCast]); (try rw [if_pos (And.intro hj0 hjl)]); (try with_reducible rfl))
              (try simp only [Act.put, List.setIfInBounds_toArray, List.set_cons_zero, List.set_cons_succ])
              refine wpAnyH_take (i := 14) (oi := ?oi515) (v := ?v515) ?hi515 (by kernel_rfl) (by kernel_rfl) (by kernel_rfl) ?hQ515 ?hy515 (by assumption) ?_
              case hi515 => (simp only [List.getElem?_toArray, List.getElem?_cons_succ, List.getElem?_cons_zero]; try rfl)
              case hQ515 => exact fun _ _ _ h => h
              case hy515 => (refine Or.inl ⟨by rfl, ?_⟩; intro wq hSw; (try dsimp only at hSw); go_simp; (try rw [if_pos hj1]); (try simp only [hwj, Int.toNat_natCast]); (try rw [if_pos (And.intro hj0 hjl)]); (try with_reducible rfl))
              (try simp only [Act.put, List.setIfInBounds_toArray, List.set_cons_zero, List.set_cons_succ])
              refine wpAnyH_take (i := 15) (oi := ?oi516) (v := ?v516) ?hi516 (by kernel_rfl) (by kernel_rfl) (by kernel_rfl) ?hQ516 ?hy516 (by assumption) ?_
              case hi516 => (simp only [List.getElem?_toArray, List.getElem?_cons_succ, List.getElem?_cons_zero]; try rfl)
              case hQ516 => exact fun _ _ _ h => h
              case hy516 => (refine Or.inl ⟨by rfl, ?_⟩; intro wq hSw; (try dsimp only at hSw); go_simp; (try rw [if_pos hj1]); (try simp only [hwj, Int.toNat_natCast]); (try rw [if_pos (And.intro hj0 hjl)]); (try with_reducible rfl))
              (try simp only [Act.put, List.setIfInBounds_toArray, List.set_cons_zero, List.set_cons_succ])
              refine wpAnyH_take (i := 16) (oi := ?oi517) (v := ?v517) ?hi517 (by kernel_rfl) (by kernel_rfl) (by kernel_rfl) ?hQ517 ?hy517 (by assumption) ?_
              case hi517 => (simp only [List.getElem?_toArray, List.getElem?_cons_succ, List.getElem?_cons_zero]; try rfl)
              case hQ517 => exact fun _ _ _ h => h
              case hy517 => (refine Or.inl ⟨by rfl, ?_⟩; intro wq hSw; (try dsimp only at hSw); go_simp; (try rw [if_pos hj1]); (try simp only [hwj, Int.toNat_natCast]); (try rw [if_pos (And.intro hj0 hjl)]); (try with_reducible rfl))
              (try simp only [Act.put, List.setIfInBounds_toArray, List.set_cons_zero, List.set_cons_succ])
              refine wpAnyH_take (i := 17) (oi := ?oi518) (v := ?v518) ?hi518 (by kernel_rfl) (by kernel_rfl) (by kernel_rfl) ?hQ518 ?hy518 (by assumption) ?_
              case hi518 => (simp only [List.getElem?_toArray, List.getElem?_cons_succ, List.getElem?_cons_zero]; try rfl)
              case hQ518 => exact fun _ _ _ h => h
              case hy518 => (refine Or.inl ⟨by rfl, ?_⟩; intro wq hSw; (try dsimp only at hSw); go_simp; (try rw [if_pos hj1]); (try simp only [hwj, Int.toNat_natCast]); (try rw [if_pos (And.intro hj0 hjl)]); (try with_reducible rfl))
              (try simp only [Act.put, List.setIfInBounds_toArray, List.set_cons_zero, List.set_cons_succ])
              refine wpAnyH_take (i := 18) (oi := ?oi519) (v := ?v519) ?hi519 (by kernel_rfl) (by kernel_rfl) (by kernel_rfl) ?hQ519 ?hy519 (by assumption) ?_
              case hi519 => (simp only [List.getElem?_toArray, List.getElem?_cons_succ, List.getElem?_cons_zero]; try rfl)
              case hQ519 => exact fun _ _ _ h => h
              case hy519 => (refine Or.inl ⟨by rfl, ?_⟩; intro wq hSw; (try dsimp only at hSw); go_simp; (try rw [if_pos hj1]); (try simp only [hwj, Int.toNat_natCast]); (try rw [if_pos (And.intro hj0 hjl)]); (try with_reducible rfl))
              (try simp only [Act.put, List.setIfInBounds_toArray, List.set_cons_zero, List.set_cons_succ])
              refine wpAnyH_take (i := 19) (oi := ?oi520) (v := ?v520) ?hi520 (by kernel_rfl) (by kernel_rfl) (by kernel_rfl) ?hQ520 ?hy520 (by assumption) ?_
              case hi520 => (simp only [List.getElem?_toArray, List.getElem?_cons_succ, List.getElem?_cons_zero]; try rfl)
              case hQ520 => exact fun _ _ _ h => h
              case hy520 => (refine Or.inl ⟨by rfl, ?_⟩; intro wq hSw; (try dsimp only at hSw); go_simp; (try rw [if_pos hj1]); (try simp only [hwj, Int.toNat_natCast]); (try rw [if_pos (And.intro hj0 hjl)]); (try with_reducible rfl))
              (try simp only [Act.put, List.setIfInBounds_toArray, List.set_cons_zero, List.set_cons_succ])
              refine wpAnyH_take (i := 20) (oi := ?oi521) (v := ?v521) ?hi521 (by kernel_rfl) (by kernel_rfl) (by kernel_rfl) ?hQ521 ?hy521 (by assumption) ?_
              case hi521 => (simp only [List.getElem?_toArray, List.getElem?_cons_succ, List.getElem?_cons_zero]; try rfl)
              case hQ521 => exact fun _ _ _ h => h
              case hy521 => (refine Or.inl ⟨by rfl, ?_⟩; intro wq hSw; (try dsimp only at hSw); go_simp; (try rw [if_pos hj1]); (try simp only [hwj, Int.toNat_natCast]); (try rw [if_pos (And.intro hj0 hjl)]); (try with_reducible rfl))
              (try simp only [Act.put, List.setIfInBounds_toArray, List.set_cons_zero, List.set_cons_succ])
              refine wpAnyH_take (i := 21) (oi := ?oi522) (v := ?v522) ?hi522 (by kernel_rfl) (by kernel_rfl) (by kernel_rfl) ?hQ522 ?hy522 (by assumption) ?_
              case hi522 => (simp only [List.getElem?_toArray, List.getElem?_cons_succ, List.getElem?_cons_zero]; try rfl)
              case hQ522 => exact fun _ _ _ h => h
              case hy522 => (refine Or.inl ⟨by rfl, ?_⟩; intro wq hSw; (try dsimp only at hSw); go_simp; (try rw [if_pos hj1]); (try simp only [hwj, Int.toNat_natCast]); (try rw [if_pos (And.intro hj0 hjl)]); (try with_reducible rfl))
              (try simp only [Act.put, List.setIfInBounds_toArray, List.set_cons_zero, List.set_cons_succ])
              refine wpAnyH_take (i := 22) (oi := ?oi523) (v := ?v523) ?hi523 (by kernel_rfl) (by kernel_rfl) (by kernel_rfl) ?hQ523 ?hy523 (by assumption) ?_
              case hi523 => (simp only [List.getElem?_toArray, List.getElem?_cons_succ, List.getElem?_cons_zero]; try rfl)
              case hQ523 => exact fun _ _ _ h => h
              case hy523 => (refine Or.inl ⟨by rfl, ?_⟩; intro wq hSw; (try dsimp only at hSw); go_simp; (try rw [if_pos hj1]); (try simp only [hwj, Int.toNat_natCast]); (try rw [if_pos (And.intro hj0 hjl)]); (try with_reducible rfl))
              (try simp only [Act.put, List.setIfInBounds_toArray, List.set_cons_zero, List.set_cons_succ])
              refine wpAnyH_take (i := 23) (oi := ?oi524) (v := ?v524) ?hi524 (by kernel_rfl) (by kernel_rfl) (by kernel_rfl) ?hQ524 ?hy524 (by assumption) ?_
              case hi524 => (simp only [List.getElem?_toArray, List.getElem?_cons_succ, List.getElem?_cons_zero]; try rfl)
              case hQ524 => exact fun _ _ _ h => h
              case hy524 => (refine Or.inl ⟨by rfl, ?_⟩; intro wq hSw; (try dsimp only at hSw); go_simp; (try rw [if_pos hj1]); (try simp only [hwj, Int.toNat_natCast]); (try rw [if_pos (And.intro hj0 hjl)]); (try with_reducible rfl))
              (try simp only [Act.put, List.setIfInBounds_toArray, List.set_cons_zero, List.set_cons_succ])
              refine wpAnyH_take (i := 24) (oi := ?oi525) (v := ?v525) ?hi525 (by kernel_rfl) (by kernel_rfl) (by kernel_rfl) ?hQ525 ?hy525 (by assumption) ?_
              case hi525 => (simp only [List.getElem?_toArray, List.getElem?_cons_succ, List.getElem?_cons_zero]; try rfl)
              case hQ525 => exact fun _ _ _ h => h
              case hy525 => (refine Or.inl ⟨by rfl, ?_⟩; intro wq hSw; (try dsimp only at hSw); go_simp; (try rw [if_pos hj1]); (try simp only [hwj, Int.toNat_natCast]); (try rw [if_pos (And.intro hj0 hjl)]); (try with_reducible rfl))
              (try simp only [Act.put, List.setIfInBounds_toArray, List.set_cons_zero, List.set_cons_succ])
              refine wpAnyH_take (i := 25) (oi := ?oi526) (v := ?v526) ?hi526 (by kernel_rfl) (by kernel_rfl) (by kernel_rfl) ?hQ526 ?hy526 (by assumption) ?_
              case hi526 => (simp only [List.getElem?_toArray, List.getElem?_cons_succ, List.getElem?_cons_zero]; try rfl)
              case hQ526 => exact fun _ _ _ h => h
              case hy526 => (refine Or.inl ⟨by rfl, ?_⟩; intro wq hSw; (try dsimp only at hSw); go_simp; (try rw [if_pos hj1]); (try simp only [hwj, Int.toNat_natCast]); (try rw [if_pos (And.intro hj0 hjl)]); (try with_reducible rfl))
              (try simp only [Act.put, List.setIfInBounds_toArray, List.set_cons_zero, List.set_cons_succ])
              refine wpAnyH_take (i := 26) (oi := ?oi527) (v := undef) ?hi527 (by kernel_rfl) (by kernel_rfl) (by kernel_rfl) ?hQ527 ?hy527 (by assumption) ?_
              case hi527 => (simp only [List.getElem?_toArray, List.getElem?_cons_succ, List.getElem?_cons_zero]; try rfl)
              case hQ527 => exact fun _ _ _ h => h
              case hy527 => exact Or.inr ⟨by rfl, rfl⟩
              (try simp only [Act.put, List.setIfInBounds_toArray, List.set_cons_zero, List.set_cons_succ])
              refine wpAnyH_take (i := 27) (oi := ?oi528) (v := undef) ?hi528 (by kernel_rfl) (by kernel_rfl) (by kernel_rfl) ?hQ528 ?hy528 (by assumption) ?_
              case hi528 => (simp only [List.getElem?_toArray, List.getElem?_cons_succ, List.getElem?_cons_zero]; try rfl)
              case hQ528 => exact fun _ _ _ h => h
              case hy528 => exact Or.inr ⟨by rfl, rfl⟩
              (try simp only [Act.put, List.setIfInBounds_toArray, List.set_cons_zero, List.set_cons_succ])
              refine wpAnyH_take (i := 28) (oi := ?oi529) (v := undef) ?hi529 (by kernel_rfl) (by kernel_rfl) (by kernel_rfl) ?hQ529 ?hy529 (by assumption) ?_
              case hi529 => (simp only [List.getElem?_toArray, List.getElem?_cons_succ, List.getElem?_cons_zero]; try rfl)
              case hQ529 => exact fun _ _ _ h => h
              case hy529 => exact Or.inr ⟨by rfl, rfl⟩
              (try simp only [Act.put, List.setIfInBounds_toArray, List.set_cons_zero, List.set_cons_succ])
              refine wpAnyH_take (i := 29) (oi := ?oi530) (v := undef) ?hi530 (by kernel_rfl) (by kernel_rfl) (by kernel_rfl) ?hQ530 ?hy530 (by assumption) ?_
              case hi530 => (simp only [List.getElem?_toArray, List.getElem?_cons_succ, List.getElem?_cons_zero]; try rfl)
              case hQ530 => exact fun _ _ _ h => h
              case hy530 => exact Or.inr ⟨by rfl, rfl⟩
              (try simp only [Act.put, List.setIfInBounds_toArray, List.set_cons_zero, List.set_cons_succ])
              refine wpAnyH_take (i := 30) (oi := ?oi531) (v := undef) ?hi531 (by kernel_rfl) (by kernel_rfl) (by kernel_rfl) ?hQ531 ?hy531 (by assumption) ?_
              case hi531 => (simp only [List.getElem?_toArray, List.getElem?_cons_succ, List.getElem?_cons_zero]; try rfl)
              case hQ531 => exact fun _ _ _ h => h
              case hy531 => exact Or.inr ⟨by rfl, rfl⟩
              (try simp only [Act.put, List.setIfInBounds_toArray, List.set_cons_zero, List.set_cons_succ])
              refine wpAnyH_take (i := 31) (oi := ?oi532) (v := undef) ?hi532 (by kernel_rfl) (by kernel_rfl) (by kernel_rfl) ?hQ532 ?hy532 (by assumption) ?_
              case hi532 => (simp only [List.getElem?_toArray, List.getElem?_cons_succ, List.getElem?_cons_zero]; try rfl)
              case hQ532 => exact fun _ _ _ h => h
              case hy532 => exact Or.inr ⟨by rfl, rfl⟩
              (try simp only [Act.put, List.setIfInBounds_toArray, List.set_cons_zero, List.set_cons_succ])
              refine wpAnyH_take (i := 32) (oi := ?oi533) (v := undef) ?hi533 (by kernel_rfl) (by kernel_rfl) (by kernel_rfl) ?hQ533 ?hy533 (by assumption) ?_
              case hi533 => (simp only [List.getElem?_toArray, List.getElem?_cons_succ, List.getElem?_cons_zero]; try rfl)
              case hQ533 => exact fun _ _ _ h => h
              case hy533 => exact Or.inr ⟨by rfl, rfl⟩
              (try simp only [Act.put, List.setIfInBounds_toArray, List.set_cons_zero, List.set_cons_succ])
              refine wpAnyH_take (i := 33) (oi := ?oi534) (v := undef) ?hi534 (by kernel_rfl) (by kernel_rfl) (by kernel_rfl) ?hQ534 ?hy534 (by assumption) ?_
              case hi534 => (simp only [List.getElem?_toArray, List.getElem?_cons_succ, List.getElem?_cons_zero]; try rfl)
              case hQ534 => exact fun _ _ _ h => h
              case hy534 => exact Or.inr ⟨by rfl, rfl⟩
              (try simp only [Act.put, List.setIfInBounds_toArray, List.set_cons_zero, List.set_cons_succ])
              refine wpAnyH_take (i := 34) (oi := ?oi535) (v := undef) ?hi535 (by kernel_rfl) (by kernel_rfl) (by kernel_rfl) ?hQ535 ?hy535 (by assumption) ?_
              case hi535 => (simp only [List.getElem?_toArray, List.getElem?_cons_succ, List.getElem?_cons_zero]; try rfl)
              case hQ535 => exact fun _ _ _ h => h
              case hy535 => exact Or.inr ⟨by rfl, rfl⟩
              (try simp only [Act.put, List.setIfInBounds_toArray, List.set_cons_zero, List.set_cons_succ])
              refine wpAnyH_take (i := 35) (oi := ?oi536) (v := undef) ?hi536 (by kernel_rfl) (by kernel_rfl) (by kernel_rfl) ?hQ536 ?hy536 (by assumption) ?_
              case hi536 => (simp only [List.getElem?_toArray, List.getElem?_cons_succ, List.getElem?_cons_zero]; try rfl)
              case hQ536 => exact fun _ _ _ h => h
              case hy536 => exact Or.inr ⟨by rfl, rfl⟩
              (try simp only [Act.put, List.setIfInBounds_toArray, List.set_cons_zero, List.set_cons_succ])
              refine wpAnyH_take (i := 36) (oi := ?oi537) (v := undef) ?hi537 (by kernel_rfl) (by kernel_rfl) (by kernel_rfl) ?hQ537 ?hy537 (by assumption) ?_
              case hi537 => (simp only [List.getElem?_toArray, List.getElem?_cons_succ, List.getElem?_cons_zero]; try rfl)
              case hQ537 => exact fun _ _ _ h => h
              case hy537 => exact Or.inr ⟨by rfl, rfl⟩
              (try simp only [Act.put, List.setIfInBounds_toArray, List.set_cons_zero, List.set_cons_succ])
              refine wpAnyH_take (i := 37) (oi := ?oi538) (v := undef) ?hi538 (by kernel_rfl) (by kernel_rfl) (by kernel_rfl) ?hQ538 ?hy538 (by assumption) ?_
              case hi538 => (simp only [List.getElem?_toArray, List.getElem?_cons_succ, List.getElem?_cons_zero]; try rfl)
              case hQ538 => exact fun _ _ _ h => h
              case hy538 => exact Or.inr ⟨by rfl, rfl⟩
              (try simp only [Act.put, List.setIfInBounds_toArray, List.set_cons_zero, List.set_cons_succ])
              refine wpAnyH_take (i := 38) (oi := ?oi539) (v := undef) ?hi539 (by kernel_rfl) (by kernel_rfl) (by kernel_rfl) ?hQ539 ?hy539 (by assumption) ?_
              case hi539 => (simp only [List.getElem?_toArray, List.getElem?_cons_succ, List.getElem?_cons_zero]; try rfl)
              case hQ539 => exact fun _ _ _ h => h
              case hy539 => exact Or.inr ⟨by rfl, rfl⟩
              (try simp only [Act.put, List.setIfInBounds_toArray, List.set_cons_zero, List.set_cons_succ])
              refine wpAnyH_take (i := 39) (oi := ?oi540) (v := undef) ?hi540 (by kernel_rfl) (by kernel_rfl) (by kernel_rfl) ?hQ540 ?hy540 (by assumption) ?_
              case hi540 => (simp only [List.getElem?_toArray, List.getElem?_cons_succ, List.getElem?_cons_zero]; try rfl)
              case hQ540 => exact fun _ _ _ h => h
              case hy540 => exact Or.inr ⟨by rfl, rfl⟩
              (try simp only [Act.put, List.setIfInBounds_toArray, List.set_cons_zero, List.set_cons_succ])
              refine wpAnyH_take (i := 40) (oi := ?oi541) (v := ?v541) ?hi541 (by kernel_rfl) (by kernel_rfl) (by kernel_rfl) ?hQ541 ?hy541 (by assumption) ?_
              case hi541 => (simp only [List.getElem?_toArray, List.getElem?_cons_succ, List.getElem?_cons_zero]; try rfl)
              case hQ541 => exact fun _ _ _ h => h
              case hy541 => (refine Or.inl ⟨by rfl, ?_⟩; intro wq hSw; (try dsimp only at hSw); go_simp; (try rw [if_pos hj1]); (try simp only [hwj, Int.toNat_natCast]); (try rw [if_pos (And.intro hj0 hjl)]); (try with_reducible rfl))
              (try simp only [Act.put, List.setIfInBounds_toArray, List.set_cons_zero, List.set_cons_succ])
              refine wpAnyH_take (i := 41) (oi := ?oi542) (v := ?v542) ?hi542 (by kernel_rfl) (by kernel_rfl) (by kernel_rfl) ?hQ542 ?hy542 (by assumption) ?_
              case hi542 => (simp only [List.getElem?_toArray, List.getElem?_cons_succ, List.getElem?_cons_zero]; try rfl)
              case hQ542 => exact fun _ _ _ h => h
              case hy542 => (refine Or.inl ⟨by rfl, ?_⟩; intro wq hSw; (try dsimp only at hSw); go_simp; (try rw [if_pos hj1]); (try simp only [hwj, Int.toNat_natCast]); (try rw [if_pos (And.intro hj0 hjl)]); (try with_reducible rfl))
              (try simp only [Act.put, List.setIfInBounds_toArray, List.set_cons_zero, List.set_cons_succ])
              refine wpAnyH_done (by kernel_rfl) ?_ _
              go_wp2
              go_roundw
              case rel => exact ⟨j + 1, .inl (by omega), by go_num, hE2.tr (by repeat (first | exact Ext.refl' _ | assumption | apply Ext.ex' | apply Ext.al | apply Ext.drN | apply Ext.dr))⟩
              case measure => simp [intOf]; omega
          · go_wp2_with (first | (go_at_call 6; (refine Calls.mono (HM2.out _ (hR2.ext (hE2.tr (by repeat (first | exact Ext.refl' _ | assumption | apply Ext.ex' | apply Ext.al | apply Ext.drN | apply Ext.dr))))) ?_); rintro e w2 ⟨A3, c3, rfl, hb1, hR3⟩; obtain ⟨z3, rfl⟩ := hb1.get; clear hb1) | (go_at_call 8; (refine Calls.mono (HS.out _ _ _ (hR3.ext (by repeat (first | exact Ext.refl' _ | assumption | apply Ext.ex' | apply Ext.al | apply Ext.drN | apply Ext.dr))) (hR2.ext (hE2.tr (by repeat (first | exact Ext.refl' _ | assumption | apply Ext.ex' | apply Ext.al | apply Ext.drN | apply Ext.dr))))) ?_); rintro e w1 ⟨rfl, hb1⟩; obtain ⟨z4, rfl⟩ := hb1.get; clear hb1) | (go_at_call 5; (with_reducible refine Calls.mono (works_any _) ?_); rintro e w1 ⟨rfl, hb1⟩; obtain ⟨yw, rfl⟩ := hb1.get; clear hb1))
            go_ret
            exact ⟨rfl, hE1.tr (hE2.tr (by repeat (first | exact Ext.refl' _ | assumption | apply Ext.ex' | apply Ext.al | apply Ext.drN | apply Ext.dr)))⟩
theorem lawInstants_any (A : Option Addr) (c : Nat) (l : List Acc) (s : ByteArray) (f : Int) (w : World) (hR : Rd w 3 A l.length (l.flatMap ac)) (hc : l.length ≤ c) (hm : c ≤ maxLen) (hwf : ∀ a ∈ l, a.1.size ≤ maxLen) (hf : (Lit.int .u8 f).wf = true) :
    Calls Try.prog 3 #[.slice A l.length c, .string s, .int .u8 f] w fun e w' => e = .returned (.bool true) ∧ Ext w w' := by
  have h : 0 ≤ f ∧ f ≤ 255 := by
    simp [Lit.wf] at hf
    exact hf
  exact instants_any A l.length c l s f w rfl hR (Nat.le_trans hc hm) hwf h.1 h.2

end Go.Proofs.Ytpifjhoelnacgaa
