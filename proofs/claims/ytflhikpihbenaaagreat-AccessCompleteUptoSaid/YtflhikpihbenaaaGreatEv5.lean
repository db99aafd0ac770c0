/- Values of texts, choices, relations. -/
import Derived.Test.YtflhikpihbenaaaGreatEv4
import Derived.Deep.LoopGhost
set_option linter.unusedSimpArgs false
set_option linter.unusedVariables false
namespace Go.Proofs.YtflhikpihbenaaaGreat
open Go.RowKit


set_option maxRecDepth 100000 in
set_option maxHeartbeats 8000000 in
theorem texts_any (op : Int) (A : Option Addr) (n c : Nat) (l : List Va) (w : World) (hn : l.length = n) (hA : Rd w 3 A n (vcl l)) (nl : n ≤ 1048576) (hz : ∀ v ∈ l, SmV v) (h1 : 1 ≤ n) (h2 : op = 19 → 2 ≤ n) : Calls Tryz.prog 44 #[.int .i64 op, .slice A n c] w fun e w' => RVs e ∧ Ext w w' := by
  have HAR := Lib.hid fun W (e : Ext w W) => are_any A n c l 2 W hn (hA.ext e) nl
  obtain ⟨v0, b0, o0, hv0, hAe0, hb0, p0, p1, p2⟩ := hA.val3 hn (show 0 < n by omega)
  have hz0 := hz v0 (List.mem_of_getElem? hv0)
  have hz0s := hz0.1
  rcases h19 : (op == 19) with _ | _
  · clear hv0 hn
    subst hAe0
    simp only [Nat.zero_mul, Nat.add_zero] at p0 p1 p2
    go_enter Tryz.func44, Tryz.ntmps44
    go_wp2_with fail
    refine (HAR.out _ (by repeat (first | exact Ext.refl' _ | assumption | apply Ext.ex' | apply Ext.al | apply Ext.drN | apply Ext.dr))).mono ?_
    rintro e w1 ⟨⟨ba, rfl⟩, hb1⟩
    obtain ⟨x1, rfl⟩ := hb1.get
    clear hb1
    cases ba
    · go_wp2_with fail
      refine (rnull7 _).mono ?_
      rintro e w1 ⟨rfl, hb1⟩
      obtain ⟨xn, rfl⟩ := hb1.get
      clear hb1
      go_wp2
      refine bodyPost_ret (v := vag nullV) ?_ rfl ⟨RVs.mk nullV (by decide), by repeat (first | exact Ext.refl' _ | assumption | apply Ext.ex' | apply Ext.al | apply Ext.drN | apply Ext.dr)⟩
      simp [results, Tryz.results44, go_sem, ↓IntWalk.iteOmega, nullV]
    go_wp2_with fail
    refine (rint7_any _ _).mono ?_
    rintro e w1 ⟨⟨r, rfl, hr⟩, hb1⟩
    obtain ⟨x2, rfl⟩ := hb1.get
    clear hb1
    go_wp2
    refine bodyPost_ret (v := vag r) ?_ rfl ⟨RVs.mk r hr, by repeat (first | exact Ext.refl' _ | assumption | apply Ext.ex' | apply Ext.al | apply Ext.drN | apply Ext.dr)⟩
    simp [results, Tryz.results44, go_sem, ↓IntWalk.iteOmega]
  · have h19n : op = 19 := by simpa using h19
    have hn2 := h2 h19n
    have h0n : 0 < n := by omega
    have h1n : 1 < n := by omega
    have h1z : (1 : Int) < (n : Int) := by omega
    obtain ⟨v1, b1, o1, hv1, hAe1, hb1, q0, q1, q2⟩ := hA.val3 hn (show 1 < n by omega)
    have hz1 := hz v1 (List.mem_of_getElem? hv1)
    have hz1s := hz1.1
    simp only [hAe0, Option.some.injEq, Addr.mk.injEq, and_true] at hAe1
    obtain ⟨rfl, rfl⟩ := hAe1
    clear hv0 hv1 hn h19n h2
    subst hAe0
    have hsum : ¬ 9223372036854775807 < v0.t.size + v1.t.size := by omega
    simp only [Nat.zero_mul, Nat.add_zero, Nat.one_mul] at p0 p1 p2 q0 q1 q2
    have q2 : w.cell? ⟨b0, o0 + 5, none⟩ = some (.string v1.t) := q2
    go_enter Tryz.func44, Tryz.ntmps44
    go_wp2_with fail
    refine (HAR.out _ (by repeat (first | exact Ext.refl' _ | assumption | apply Ext.ex' | apply Ext.al | apply Ext.drN | apply Ext.dr))).mono ?_
    rintro e w1 ⟨⟨ba, rfl⟩, hb1⟩
    obtain ⟨x1, rfl⟩ := hb1.get
    clear hb1
    cases ba
    · go_wp2_with fail
      refine (rnull7 _).mono ?_
      rintro e w1 ⟨rfl, hb1⟩
      obtain ⟨xn, rfl⟩ := hb1.get
      clear hb1
      go_wp2
      refine bodyPost_ret (v := vag nullV) ?_ rfl ⟨RVs.mk nullV (by decide), by repeat (first | exact Ext.refl' _ | assumption | apply Ext.ex' | apply Ext.al | apply Ext.drN | apply Ext.dr)⟩
      simp [results, Tryz.results44, go_sem, ↓IntWalk.iteOmega, nullV]
    go_wp2_with fail
    refine wp_region_held_drew (S := (fun w' => w'.cell? ⟨b0, o0 + 2, none⟩ = some (.string v0.t) ∧ w'.cell? ⟨b0, o0 + 5, none⟩ = some (.string v1.t))) (by kernel_rfl) (by simp [go_sem, ↓IntWalk.iteOmega, *]) (fun hHeld => ?_)
    refine wpAnyH_take (i := 0) (oi := ?oi1) (v := ?v1) ?hi1 (by kernel_rfl) (by kernel_rfl) (by kernel_rfl) ?hQ1 ?hy1 (by assumption) ?_
    case hi1 => (simp only [List.getElem?_toArray, List.getElem?_cons_succ, List.getElem?_cons_zero]; try rfl)
    case hQ1 => exact fun _ _ _ h => h
    case hy1 => (refine Or.inl ⟨by rfl, ?_⟩; intro wq hSw; (try dsimp only at hSw); go_simp; (try rw [if_pos h0n]); (try rw [if_pos h1n]); (try rw [if_pos h1z]); (try rw [if_neg hsum]); (try with_reducible rfl))
    (try simp only [Act.put, List.setIfInBounds_toArray, List.set_cons_zero, List.set_cons_succ])
    refine wpAnyH_take (i := 1) (oi := ?oi2) (v := ?v2) ?hi2 (by kernel_rfl) (by kernel_rfl) (by kernel_rfl) ?hQ2 ?hy2 (by assumption) ?_
    case hi2 => (simp only [List.getElem?_toArray, List.getElem?_cons_succ, List.getElem?_cons_zero]; try rfl)
    case hQ2 => exact fun _ _ _ h => h
    case hy2 => (refine Or.inl ⟨by rfl, ?_⟩; intro wq hSw; (try dsimp only at hSw); go_simp; (try rw [if_pos h0n]); (try rw [if_pos h1n]); (try rw [if_pos h1z]); (try rw [if_neg hsum]); (try with_reducible rfl))
    (try simp only [Act.put, List.setIfInBounds_toArray, List.set_cons_zero, List.set_cons_succ])
    refine wpAnyH_take (i := 2) (oi := ?oi3) (v := ?v3) ?hi3 (by kernel_rfl) (by kernel_rfl) (by kernel_rfl) ?hQ3 ?hy3 (by assumption) ?_
    case hi3 => (simp only [List.getElem?_toArray, List.getElem?_cons_succ, List.getElem?_cons_zero]; try rfl)
    case hQ3 => exact fun _ _ _ h => h
    case hy3 => (refine Or.inl ⟨by rfl, ?_⟩; intro wq hSw; (try dsimp only at hSw); go_simp; (try rw [if_pos h0n]); (try rw [if_pos h1n]); (try rw [if_pos h1z]); (try rw [if_neg hsum]); (try with_reducible rfl))
    (try simp only [Act.put, List.setIfInBounds_toArray, List.set_cons_zero, List.set_cons_succ])
    refine wpAnyH_take (i := 3) (oi := ?oi4) (v := ?v4) ?hi4 (by kernel_rfl) (by kernel_rfl) (by kernel_rfl) ?hQ4 ?hy4 (by assumption) ?_
    case hi4 => (simp only [List.getElem?_toArray, List.getElem?_cons_succ, List.getElem?_cons_zero]; try rfl)
    case hQ4 => exact fun _ _ _ h => h
    case hy4 => (refine Or.inl ⟨by rfl, ?_⟩; intro wq hSw; (try dsimp only at hSw); go_simp; (try rw [if_pos h0n]); (try rw [if_pos h1n]); (try rw [if_pos h1z]); (try rw [if_neg hsum]); (try with_reducible rfl))
    (try simp only [Act.put, List.setIfInBounds_toArray, List.set_cons_zero, List.set_cons_succ])
    refine wpAnyH_take (i := 4) (oi := ?oi5) (v := ?v5) ?hi5 (by kernel_rfl) (by kernel_rfl) (by kernel_rfl) ?hQ5 ?hy5 (by assumption) ?_
    case hi5 => (simp only [List.getElem?_toArray, List.getElem?_cons_succ, List.getElem?_cons_zero]; try rfl)
    case hQ5 => exact fun _ _ _ h => h
    case hy5 => (refine Or.inl ⟨by rfl, ?_⟩; intro wq hSw; (try dsimp only at hSw); go_simp; (try rw [if_pos h0n]); (try rw [if_pos h1n]); (try rw [if_pos h1z]); (try rw [if_neg hsum]); (try with_reducible rfl))
    (try simp only [Act.put, List.setIfInBounds_toArray, List.set_cons_zero, List.set_cons_succ])
    refine wpAnyH_take (i := 5) (oi := ?oi6) (v := ?v6) ?hi6 (by kernel_rfl) (by kernel_rfl) (by kernel_rfl) ?hQ6 ?hy6 (by assumption) ?_
    case hi6 => (simp only [List.getElem?_toArray, List.getElem?_cons_succ, List.getElem?_cons_zero]; try rfl)
    case hQ6 => exact fun _ _ _ h => h
    case hy6 => (refine Or.inl ⟨by rfl, ?_⟩; intro wq hSw; (try dsimp only at hSw); go_simp; (try rw [if_pos h0n]); (try rw [if_pos h1n]); (try rw [if_pos h1z]); (try rw [if_neg hsum]); (try with_reducible rfl))
    (try simp only [Act.put, List.setIfInBounds_toArray, List.set_cons_zero, List.set_cons_succ])
    refine wpAnyH_take (i := 6) (oi := ?oi7) (v := ?v7) ?hi7 (by kernel_rfl) (by kernel_rfl) (by kernel_rfl) ?hQ7 ?hy7 (by assumption) ?_
    case hi7 => (simp only [List.getElem?_toArray, List.getElem?_cons_succ, List.getElem?_cons_zero]; try rfl)
    case hQ7 => exact fun _ _ _ h => h
    case hy7 => (refine Or.inl ⟨by rfl, ?_⟩; intro wq hSw; (try dsimp only at hSw); go_simp; (try rw [if_pos h0n]); (try rw [if_pos h1n]); (try rw [if_pos h1z]); (try rw [if_neg hsum]); (try with_reducible rfl))
    (try simp only [Act.put, List.setIfInBounds_toArray, List.set_cons_zero, List.set_cons_succ])
    refine wpAnyH_take (i := 7) (oi := ?oi8) (v := ?v8) ?hi8 (by kernel_rfl) (by kernel_rfl) (by kernel_rfl) ?hQ8 ?hy8 (by assumption) ?_
    case hi8 => (simp only [List.getElem?_toArray, List.getElem?_cons_succ, List.getElem?_cons_zero]; try rfl)
    case hQ8 => exact fun _ _ _ h => h
    case hy8 => (refine Or.inl ⟨by rfl, ?_⟩; intro wq hSw; (try dsimp only at hSw); go_simp; (try rw [if_pos h0n]); (try rw [if_pos h1n]); (try rw [if_pos h1z]); (try rw [if_neg hsum]); (try with_reducible rfl))
    (try simp only [Act.put, List.setIfInBounds_toArray, List.set_cons_zero, List.set_cons_succ])
    refine wpAnyH_take (i := 8) (oi := ?oi9) (v := ?v9) ?hi9 (by kernel_rfl) (by kernel_rfl) (by kernel_rfl) ?hQ9 ?hy9 (by assumption) ?_
    case hi9 => (simp only [List.getElem?_toArray, List.getElem?_cons_succ, List.getElem?_cons_zero]; try rfl)
    case hQ9 => exact fun _ _ _ h => h
    case hy9 => (refine Or.inl ⟨by rfl, ?_⟩; intro wq hSw; (try dsimp only at hSw); go_simp; (try rw [if_pos h0n]); (try rw [if_pos h1n]); (try rw [if_pos h1z]); (try rw [if_neg hsum]); (try with_reducible rfl))
    (try simp only [Act.put, List.setIfInBounds_toArray, List.set_cons_zero, List.set_cons_succ])
    refine wpAnyH_ready (rs := [9]) (by kernel_rfl) (by simp) ?_
    refine AllReadyH.cons (o := ?oi10) ?hi10 ?ti10 AllReadyH.nil
    case hi10 => (simp only [List.getElem?_toArray, List.getElem?_cons_succ, List.getElem?_cons_zero]; try rfl)
    case ti10 =>
      intro KQ hKQ
      go_simp
      go_at_call 65
      refine Calls.mono (rtext7_any _ _ (by first | (rw [ByteArray.size_append]; omega) | omega)) ?_
      rintro e w1 ⟨⟨r, rfl, hr⟩, hb1⟩
      obtain ⟨x1, rfl⟩ := hb1.get
      clear hb1
      refine hKQ.out _ _ (by simp [go_sem, ↓IntWalk.iteOmega, *]) (fun hHeld2 => ?_)
      clear hHeld hKQ KQ; have hHeld := hHeld2; clear hHeld2
      (try simp only [Act.put, List.setIfInBounds_toArray, List.set_cons_zero, List.set_cons_succ])
      refine wpAnyH_ready (rs := [10]) (by kernel_rfl) (by simp) ?_
      refine AllReadyH.cons (o := ?oi11) ?hi11 ?ti11 AllReadyH.nil
      case hi11 => (simp only [List.getElem?_toArray, List.getElem?_cons_succ, List.getElem?_cons_zero]; try rfl)
      case ti11 =>
        intro KQ hKQ
        go_simp
        (repeat (simp only [go_sem, ↓IntWalk.iteOmega, ↓reduceIte, Bool.false_eq_true]; (try go_simp)))
        refine hKQ.out _ _ (by simp [go_sem, ↓IntWalk.iteOmega, *]) (fun hHeld2 => ?_)
        clear hHeld hKQ KQ; have hHeld := hHeld2; clear hHeld2
        (try simp only [Act.put, List.setIfInBounds_toArray, List.set_cons_zero, List.set_cons_succ])
        refine wpAnyH_done (by kernel_rfl) ?_ _
        go_wp2
        refine bodyPost_ret (v := vag r) ?_ rfl ⟨RVs.mk r hr, by repeat (first | exact Ext.refl' _ | assumption | apply Ext.ex' | apply Ext.al | apply Ext.drN | apply Ext.dr)⟩
        simp [results, Tryz.results44, go_sem, ↓IntWalk.iteOmega]
set_option maxRecDepth 100000 in
set_option maxHeartbeats 8000000 in
theorem chosen11_any (op : Int) (A : Option Addr) (n c : Nat) (l : List Va) (w : World) (hn : l.length = n) (hA : Rd w 3 A n (vcl l)) (nl : n ≤ 1048576) (hz : ∀ v ∈ l, SmV v) (h3 : op = 22 → n = 3) : Calls Tryz.prog 45 #[.int .i64 op, .slice A n c] w fun e w' => RVs e ∧ Ext w w' := by
  rcases h22 : (op == 22) with _ | _
  · have HN := Lib.hid hn
    have HZ := Lib.hid hz
    clear hn h3 hz
    go_enter Tryz.func45, Tryz.ntmps45
    go_wp2
    go_loop [5] (fun i => ∃ k : Nat, k ≤ n ∧ i = .int .i64 k) (fun i => n - (intOf i).toNat)
    case atStart => exact ⟨0, Nat.zero_le _, rfl⟩
    case round =>
      obtain ⟨k, hk, rfl⟩ := hrel
      by_cases hlt : k < n
      · obtain ⟨v, b, oo, hv, rfl, hb, c0, c1, c2⟩ := hA.val3 HN.out hlt
        have HZv := Lib.hid (HZ.out v (List.mem_of_getElem? hv))
        rcases h1 : (v.k != 0) with _ | _
        · go_wp2
          go_round
          case rel => exact ⟨k + 1, by omega, by go_num⟩
          case measure => simp [intOf]; omega
        · go_wp2
          refine bodyPost_ret (v := vag v) ?_ rfl ⟨RVs.mk v HZv.out, by repeat (first | exact Ext.refl' _ | assumption | apply Ext.ex' | apply Ext.al | apply Ext.drN | apply Ext.dr)⟩
          simp [results, Tryz.results45, go_sem, ↓IntWalk.iteOmega]
      · go_wp2_with fail
        refine (rnull7 _).mono ?_
        rintro e w1 ⟨rfl, hb1⟩
        obtain ⟨xn, rfl⟩ := hb1.get
        clear hb1
        go_wp2
        refine bodyPost_ret (v := vag nullV) ?_ rfl ⟨RVs.mk nullV (by decide), by repeat (first | exact Ext.refl' _ | assumption | apply Ext.ex' | apply Ext.al | apply Ext.drN | apply Ext.dr)⟩
        simp [results, Tryz.results45, go_sem, ↓IntWalk.iteOmega, nullV]
  · have h22n : op = 22 := by simpa using h22
    have hn3 := h3 h22n
    obtain ⟨v0, b0, o0, hv0, hAe0, hb0, p0, p1, p2⟩ := hA.val3 hn (show 0 < n by omega)
    have hz0 := hz v0 (List.mem_of_getElem? hv0)
    have hz0s := hz0.1
    obtain ⟨v1, b1, o1, hv1, hAe1, hb1, q0, q1, q2⟩ := hA.val3 hn (show 1 < n by omega)
    have hz1 := hz v1 (List.mem_of_getElem? hv1)
    have hz1s := hz1.1
    simp only [hAe0, Option.some.injEq, Addr.mk.injEq, and_true] at hAe1
    obtain ⟨rfl, rfl⟩ := hAe1
    obtain ⟨v2, b2, o2, hv2, hAe2, hb2, r0, r1, r2⟩ := hA.val3 hn (show 2 < n by omega)
    have hz2 := hz v2 (List.mem_of_getElem? hv2)
    have hz2s := hz2.1
    simp only [hAe0, Option.some.injEq, Addr.mk.injEq, and_true] at hAe2
    obtain ⟨rfl, rfl⟩ := hAe2
    clear hv0 hv1 hv2 hn h22n h3
    subst hAe0 hn3
    simp only [Nat.zero_mul, Nat.add_zero, Nat.one_mul, Nat.reduceMul] at p0 p1 p2 q0 q1 q2 r0 r1 r2
    have HT := Lib.hid fun W => rTruth7_any v0 W
    generalize trT v0 = t0 at HT
    go_enter Tryz.func45, Tryz.ntmps45
    go_wp2_with fail
    refine (HT.out _).mono ?_
    rintro e w1 ⟨rfl, hb1⟩
    obtain ⟨x1, rfl⟩ := hb1.get
    clear hb1
    rcases ht : (t0 == 2) with _ | _
    · go_wp2
      refine bodyPost_ret (v := vag v2) ?_ rfl ⟨RVs.mk v2 hz2, by repeat (first | exact Ext.refl' _ | assumption | apply Ext.ex' | apply Ext.al | apply Ext.drN | apply Ext.dr)⟩
      simp [results, Tryz.results45, go_sem, ↓IntWalk.iteOmega]
    · go_wp2
      refine bodyPost_ret (v := vag v1) ?_ rfl ⟨RVs.mk v1 hz1, by repeat (first | exact Ext.refl' _ | assumption | apply Ext.ex' | apply Ext.al | apply Ext.drN | apply Ext.dr)⟩
      simp [results, Tryz.results45, go_sem, ↓IntWalk.iteOmega]

end Go.Proofs.YtflhikpihbenaaaGreat
