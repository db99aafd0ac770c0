/- Values of relations. -/
import Derived.Test.YtflhikpihbenaaaGreatEv5
set_option linter.unusedSimpArgs false
set_option linter.unusedVariables false
namespace Go.Proofs.YtflhikpihbenaaaGreat
open Go.RowKit


set_option maxRecDepth 100000 in
set_option maxHeartbeats 8000000 in
theorem related_any (op : Int) (A : Option Addr) (n c : Nat) (l : List Va) (w : World) (hn : l.length = n) (hA : Rd w 3 A n (vcl l)) (nl : n ≤ 1048576) (hz : ∀ v ∈ l, SmV v) (h4 : n = 4) : Calls Tryz.prog 46 #[.int .i64 op, .slice A n c] w fun e w' => RVs e ∧ Ext w w' := by
  have HAR := Lib.hid fun W (e : Ext w W) => are_any A n c l 1 W hn (hA.ext e) nl
  obtain ⟨v0, b0, o0, hv0, hAe0, hb0, p0, p1, p2⟩ := hA.val3 hn (show 0 < n by omega)
  have hz0 := hz v0 (List.mem_of_getElem? hv0)
  have hz0s := hz0.1
  obtain ⟨v1, b1, o1, hv1, hAe1, hb1, q0, q1, q2⟩ := hA.val3 hn (show 1 < n by omega)
  have hz1 := hz v1 (List.mem_of_getElem? hv1)
  have hz1s := hz1.1
  simp only [hAe0, Option.some.injEq, Addr.mk.injEq, and_true] at hAe1
  obtain ⟨rfl, rfl⟩ := hAe1
  obtain ⟨v2, b2, o2, hv2, hAe2, hb2, r0, r1, r2⟩ := hA.val3 hn (show 2 < n by omega)
  have hz2 := hz v2 (List.mem_of_getElem? hv2)
  have hz2s := hz2.1
  simp only [hAe0, Option.some.injEq, Addr.mk.injEq, and_true] at hAe2
  obtain ⟨rfl, rfl⟩ := hAe2
  obtain ⟨v3, b3, o3, hv3, hAe3, hb3, s0, s1, s2⟩ := hA.val3 hn (show 3 < n by omega)
  have hz3 := hz v3 (List.mem_of_getElem? hv3)
  have hz3s := hz3.1
  simp only [hAe0, Option.some.injEq, Addr.mk.injEq, and_true] at hAe3
  obtain ⟨rfl, rfl⟩ := hAe3
  clear hv0 hv1 hv2 hv3 hn
  subst hAe0 h4
  simp only [Nat.zero_mul, Nat.add_zero, Nat.one_mul, Nat.reduceMul] at p0 p1 p2 q0 q1 q2 r0 r1 r2 s0 s1 s2
  have q1 : w.cell? ⟨b0, o0 + 4, none⟩ = some (.int .i64 v1.i) := q1
  have r1 : w.cell? ⟨b0, o0 + 7, none⟩ = some (.int .i64 v2.i) := r1
  have s1 : w.cell? ⟨b0, o0 + 10, none⟩ = some (.int .i64 v3.i) := s1
  go_enter Tryz.func46, Tryz.ntmps46
  go_wp2_with fail
  refine (HAR.out _ (by repeat (first | exact Ext.refl' _ | assumption | apply Ext.ex' | apply Ext.al | apply Ext.drN | apply Ext.dr))).mono ?_
  rintro e w1 ⟨⟨ba, rfl⟩, hb1⟩
  obtain ⟨x1, rfl⟩ := hb1.get
  clear hb1
  cases ba
  · go_wp2_with fail
    refine (rnull7 _).mono ?_
    rintro e w1 ⟨rfl, hb1⟩
    obtain ⟨xn, rfl⟩ := hb1.get
    clear hb1
    go_wp2
    refine bodyPost_ret (v := vag nullV) ?_ rfl ⟨RVs.mk nullV (by decide), by repeat (first | exact Ext.refl' _ | assumption | apply Ext.ex' | apply Ext.al | apply Ext.drN | apply Ext.dr)⟩
    simp [results, Tryz.results46, go_sem, ↓IntWalk.iteOmega, nullV]
  go_wp2_with fail
  refine wp_region_held_drew (S := (fun w' => w'.cell? ⟨b0, o0 + 1, none⟩ = some (.int .i64 v0.i) ∧ w'.cell? ⟨b0, o0 + 4, none⟩ = some (.int .i64 v1.i))) (by kernel_rfl) (by simp [go_sem, ↓IntWalk.iteOmega, *]) (fun hHeld => ?_)
  refine wpAnyH_take (i := 0) (oi := ?oi1) (v := ?v1) ?hi1 (by kernel_rfl) (by kernel_rfl) (by kernel_rfl) ?hQ1 ?hy1 (by assumption) ?_
  case hi1 => (simp only [List.getElem?_toArray, List.getElem?_cons_succ, List.getElem?_cons_zero]; try rfl)
  case hQ1 => exact fun _ _ _ h => h
  case hy1 => (refine Or.inl ⟨by rfl, ?_⟩; intro wq hSw; (try dsimp only at hSw); go_simp; (try rw [if_pos h0n]); (try rw [if_pos h1n]); (try rw [if_pos h2n]); (try rw [if_pos h3n]); (try rw [if_pos h0z]); (try rw [if_pos h1z]); (try rw [if_pos h2z]); (try rw [if_pos h3z]); (try with_reducible rfl))
  (try simp only [Act.put, List.setIfInBounds_toArray, List.set_cons_zero, List.set_cons_succ])
  refine wpAnyH_take (i := 1) (oi := ?oi2) (v := ?v2) ?hi2 (by kernel_rfl) (by kernel_rfl) (by kernel_rfl) ?hQ2 ?hy2 (by assumption) ?_
  case hi2 => (simp only [List.getElem?_toArray, List.getElem?_cons_succ, List.getElem?_cons_zero]; try rfl)
  case hQ2 => exact fun _ _ _ h => h
  case hy2 => (refine Or.inl ⟨by rfl, ?_⟩; intro wq hSw; (try dsimp only at hSw); go_simp; (try rw [if_pos h0n]); (try rw [if_pos h1n]); (try rw [if_pos h2n]); (try rw [if_pos h3n]); (try rw [if_pos h0z]); (try rw [if_pos h1z]); (try rw [if_pos h2z]); (try rw [if_pos h3z]); (try with_reducible rfl))
  (try simp only [Act.put, List.setIfInBounds_toArray, List.set_cons_zero, List.set_cons_succ])
  refine wpAnyH_take (i := 2) (oi := ?oi3) (v := ?v3) ?hi3 (by kernel_rfl) (by kernel_rfl) (by kernel_rfl) ?hQ3 ?hy3 (by assumption) ?_
  case hi3 => (simp only [List.getElem?_toArray, List.getElem?_cons_succ, List.getElem?_cons_zero]; try rfl)
  case hQ3 => exact fun _ _ _ h => h
  case hy3 => (refine Or.inl ⟨by rfl, ?_⟩; intro wq hSw; (try dsimp only at hSw); go_simp; (try rw [if_pos h0n]); (try rw [if_pos h1n]); (try rw [if_pos h2n]); (try rw [if_pos h3n]); (try rw [if_pos h0z]); (try rw [if_pos h1z]); (try rw [if_pos h2z]); (try rw [if_pos h3z]); (try with_reducible rfl))
  (try simp only [Act.put, List.setIfInBounds_toArray, List.set_cons_zero, List.set_cons_succ])
  refine wpAnyH_take (i := 3) (oi := ?oi4) (v := ?v4) ?hi4 (by kernel_rfl) (by kernel_rfl) (by kernel_rfl) ?hQ4 ?hy4 (by assumption) ?_
  case hi4 => (simp only [List.getElem?_toArray, List.getElem?_cons_succ, List.getElem?_cons_zero]; try rfl)
  case hQ4 => exact fun _ _ _ h => h
  case hy4 => (refine Or.inl ⟨by rfl, ?_⟩; intro wq hSw; (try dsimp only at hSw); go_simp; (try rw [if_pos h0n]); (try rw [if_pos h1n]); (try rw [if_pos h2n]); (try rw [if_pos h3n]); (try rw [if_pos h0z]); (try rw [if_pos h1z]); (try rw [if_pos h2z]); (try rw [if_pos h3z]); (try with_reducible rfl))
  (try simp only [Act.put, List.setIfInBounds_toArray, List.set_cons_zero, List.set_cons_succ])
  refine wpAnyH_take (i := 4) (oi := ?oi5) (v := ?v5) ?hi5 (by kernel_rfl) (by kernel_rfl) (by kernel_rfl) ?hQ5 ?hy5 (by assumption) ?_
  case hi5 => (simp only [List.getElem?_toArray, List.getElem?_cons_succ, List.getElem?_cons_zero]; try rfl)
  case hQ5 => exact fun _ _ _ h => h
  case hy5 => (refine Or.inl ⟨by rfl, ?_⟩; intro wq hSw; (try dsimp only at hSw); go_simp; (try rw [if_pos h0n]); (try rw [if_pos h1n]); (try rw [if_pos h2n]); (try rw [if_pos h3n]); (try rw [if_pos h0z]); (try rw [if_pos h1z]); (try rw [if_pos h2z]); (try rw [if_pos h3z]); (try with_reducible rfl))
  (try simp only [Act.put, List.setIfInBounds_toArray, List.set_cons_zero, List.set_cons_succ])
  refine wpAnyH_take (i := 5) (oi := ?oi6) (v := ?v6) ?hi6 (by kernel_rfl) (by kernel_rfl) (by kernel_rfl) ?hQ6 ?hy6 (by assumption) ?_
  case hi6 => (simp only [List.getElem?_toArray, List.getElem?_cons_succ, List.getElem?_cons_zero]; try rfl)
  case hQ6 => exact fun _ _ _ h => h
  case hy6 => (refine Or.inl ⟨by rfl, ?_⟩; intro wq hSw; (try dsimp only at hSw); go_simp; (try rw [if_pos h0n]); (try rw [if_pos h1n]); (try rw [if_pos h2n]); (try rw [if_pos h3n]); (try rw [if_pos h0z]); (try rw [if_pos h1z]); (try rw [if_pos h2z]); (try rw [if_pos h3z]); (try with_reducible rfl))
  (try simp only [Act.put, List.setIfInBounds_toArray, List.set_cons_zero, List.set_cons_succ])
  refine wpAnyH_take (i := 6) (oi := ?oi7) (v := ?v7) ?hi7 (by kernel_rfl) (by kernel_rfl) (by kernel_rfl) ?hQ7 ?hy7 (by assumption) ?_
  case hi7 => (simp only [List.getElem?_toArray, List.getElem?_cons_succ, List.getElem?_cons_zero]; try rfl)
  case hQ7 => exact fun _ _ _ h => h
  case hy7 => (refine Or.inl ⟨by rfl, ?_⟩; intro wq hSw; (try dsimp only at hSw); go_simp; (try rw [if_pos h0n]); (try rw [if_pos h1n]); (try rw [if_pos h2n]); (try rw [if_pos h3n]); (try rw [if_pos h0z]); (try rw [if_pos h1z]); (try rw [if_pos h2z]); (try rw [if_pos h3z]); (try with_reducible rfl))
  (try simp only [Act.put, List.setIfInBounds_toArray, List.set_cons_zero, List.set_cons_succ])
  refine wpAnyH_take (i := 7) (oi := ?oi8) (v := ?v8) ?hi8 (by kernel_rfl) (by kernel_rfl) (by kernel_rfl) ?hQ8 ?hy8 (by assumption) ?_
  case hi8 => (simp only [List.getElem?_toArray, List.getElem?_cons_succ, List.getElem?_cons_zero]; try rfl)
  case hQ8 => exact fun _ _ _ h => h
  case hy8 => (refine Or.inl ⟨by rfl, ?_⟩; intro wq hSw; (try dsimp only at hSw); go_simp; (try rw [if_pos h0n]); (try rw [if_pos h1n]); (try rw [if_pos h2n]); (try rw [if_pos h3n]); (try rw [if_pos h0z]); (try rw [if_pos h1z]); (try rw [if_pos h2z]); (try rw [if_pos h3z]); (try with_reducible rfl))
  (try simp only [Act.put, List.setIfInBounds_toArray, List.set_cons_zero, List.set_cons_succ])
  refine wpAnyH_take (i := 8) (oi := ?oi9) (v := ?v9) ?hi9 (by kernel_rfl) (by kernel_rfl) (by kernel_rfl) ?hQ9 ?hy9 (by assumption) ?_
  case hi9 => (simp only [List.getElem?_toArray, List.getElem?_cons_succ, List.getElem?_cons_zero]; try rfl)
  case hQ9 => exact fun _ _ _ h => h
  case hy9 => (refine Or.inl ⟨by rfl, ?_⟩; intro wq hSw; (try dsimp only at hSw); go_simp; (try rw [if_pos h0n]); (try rw [if_pos h1n]); (try rw [if_pos h2n]); (try rw [if_pos h3n]); (try rw [if_pos h0z]); (try rw [if_pos h1z]); (try rw [if_pos h2z]); (try rw [if_pos h3z]); (try with_reducible rfl))
  (try simp only [Act.put, List.setIfInBounds_toArray, List.set_cons_zero, List.set_cons_succ])
  refine wpAnyH_ready (rs := [9]) (by kernel_rfl) (by simp) ?_
  refine AllReadyH.cons (o := ?oi10) ?hi10 ?ti10 AllReadyH.nil
  case hi10 => (simp only [List.getElem?_toArray, List.getElem?_cons_succ, List.getElem?_cons_zero]; try rfl)
  case ti10 =>
    intro KQ hKQ
    go_simp
    refine hKQ.out _ _ (by simp [go_sem, ↓IntWalk.iteOmega, *]) (fun hHeld2 => ?_)
    clear hHeld hKQ KQ; have hHeld := hHeld2; clear hHeld2
    (try simp only [Act.put, List.setIfInBounds_toArray, List.set_cons_zero, List.set_cons_succ])
    refine wpAnyH_ready (rs := [10]) (by kernel_rfl) (by simp) ?_
    refine AllReadyH.cons (o := ?oi11) ?hi11 ?ti11 AllReadyH.nil
    case hi11 => (simp only [List.getElem?_toArray, List.getElem?_cons_succ, List.getElem?_cons_zero]; try rfl)
    case ti11 =>
      intro KQ hKQ
      go_simp
      (repeat (simp only [go_sem, ↓IntWalk.iteOmega, ↓reduceIte, Bool.false_eq_true]; (try go_simp)))
      refine hKQ.out _ _ (by simp [go_sem, ↓IntWalk.iteOmega, *]) (fun hHeld2 => ?_)
      clear hHeld hKQ KQ; have hHeld := hHeld2; clear hHeld2
      (try simp only [Act.put, List.setIfInBounds_toArray, List.set_cons_zero, List.set_cons_succ])
      refine wpAnyH_done (by kernel_rfl) ?_ _
      go_wp2_with fail
      refine wp_region_held_drew (S := (fun w' => w'.cell? ⟨b0, o0 + 7, none⟩ = some (.int .i64 v2.i) ∧ w'.cell? ⟨b0, o0 + 10, none⟩ = some (.int .i64 v3.i))) (by kernel_rfl) (by simp [go_sem, ↓IntWalk.iteOmega, *]) (fun hHeld => ?_)
      refine wpAnyH_take (i := 0) (oi := ?oi301) (v := ?v301) ?hi301 (by kernel_rfl) (by kernel_rfl) (by kernel_rfl) ?hQ301 ?hy301 (by assumption) ?_
      case hi301 => (simp only [List.getElem?_toArray, List.getElem?_cons_succ, List.getElem?_cons_zero]; try rfl)
      case hQ301 => exact fun _ _ _ h => h
      case hy301 => (refine Or.inl ⟨by rfl, ?_⟩; intro wq hSw; (try dsimp only at hSw); go_simp; (try rw [if_pos h0n]); (try rw [if_pos h1n]); (try rw [if_pos h2n]); (try rw [if_pos h3n]); (try rw [if_pos h0z]); (try rw [if_pos h1z]); (try rw [if_pos h2z]); (try rw [if_pos h3z]); (try with_reducible rfl))
      (try simp only [Act.put, List.setIfInBounds_toArray, List.set_cons_zero, List.set_cons_succ])
      refine wpAnyH_take (i := 1) (oi := ?oi302) (v := ?v302) ?hi302 (by kernel_rfl) (by kernel_rfl) (by kernel_rfl) ?hQ302 ?hy302 (by assumption) ?_
      case hi302 => (simp only [List.getElem?_toArray, List.getElem?_cons_succ, List.getElem?_cons_zero]; try rfl)
      case hQ302 => exact fun _ _ _ h => h
      case hy302 => (refine Or.inl ⟨by rfl, ?_⟩; intro wq hSw; (try dsimp only at hSw); go_simp; (try rw [if_pos h0n]); (try rw [if_pos h1n]); (try rw [if_pos h2n]); (try rw [if_pos h3n]); (try rw [if_pos h0z]); (try rw [if_pos h1z]); (try rw [if_pos h2z]); (try rw [if_pos h3z]); (try with_reducible rfl))
      (try simp only [Act.put, List.setIfInBounds_toArray, List.set_cons_zero, List.set_cons_succ])
      refine wpAnyH_take (i := 2) (oi := ?oi303) (v := ?v303) ?hi303 (by kernel_rfl) (by kernel_rfl) (by kernel_rfl) ?hQ303 ?hy303 (by assumption) ?_
      case hi303 => (simp only [List.getElem?_toArray, List.getElem?_cons_succ, List.getElem?_cons_zero]; try rfl)
      case hQ303 => exact fun _ _ _ h => h
      case hy303 => (refine Or.inl ⟨by rfl, ?_⟩; intro wq hSw; (try dsimp only at hSw); go_simp; (try rw [if_pos h0n]); (try rw [if_pos h1n]); (try rw [if_pos h2n]); (try rw [if_pos h3n]); (try rw [if_pos h0z]); (try rw [if_pos h1z]); (try rw [if_pos h2z]); (try rw [if_pos h3z]); (try with_reducible rfl))
      (try simp only [Act.put, List.setIfInBounds_toArray, List.set_cons_zero, List.set_cons_succ])
      refine wpAnyH_take (i := 3) (oi := ?oi304) (v := ?v304) ?hi304 (by kernel_rfl) (by kernel_rfl) (by kernel_rfl) ?hQ304 ?hy304 (by assumption) ?_
      case hi304 => (simp only [List.getElem?_toArray, List.getElem?_cons_succ, List.getElem?_cons_zero]; try rfl)
      case hQ304 => exact fun _ _ _ h => h
      case hy304 => (refine Or.inl ⟨by rfl, ?_⟩; intro wq hSw; (try dsimp only at hSw); go_simp; (try rw [if_pos h0n]); (try rw [if_pos h1n]); (try rw [if_pos h2n]); (try rw [if_pos h3n]); (try rw [if_pos h0z]); (try rw [if_pos h1z]); (try rw [if_pos h2z]); (try rw [if_pos h3z]); (try with_reducible rfl))
      (try simp only [Act.put, List.setIfInBounds_toArray, List.set_cons_zero, List.set_cons_succ])
      refine wpAnyH_take (i := 4) (oi := ?oi305) (v := ?v305) ?hi305 (by kernel_rfl) (by kernel_rfl) (by kernel_rfl) ?hQ305 ?hy305 (by assumption) ?_
      case hi305 => (simp only [List.getElem?_toArray, List.getElem?_cons_succ, List.getElem?_cons_zero]; try rfl)
      case hQ305 => exact fun _ _ _ h => h
      case hy305 => (refine Or.inl ⟨by rfl, ?_⟩; intro wq hSw; (try dsimp only at hSw); go_simp; (try rw [if_pos h0n]); (try rw [if_pos h1n]); (try rw [if_pos h2n]); (try rw [if_pos h3n]); (try rw [if_pos h0z]); (try rw [if_pos h1z]); (try rw [if_pos h2z]); (try rw [if_pos h3z]); (try with_reducible rfl))
      (try simp only [Act.put, List.setIfInBounds_toArray, List.set_cons_zero, List.set_cons_succ])
      refine wpAnyH_take (i := 5) (oi := ?oi306) (v := ?v306) ?hi306 (by kernel_rfl) (by kernel_rfl) (by kernel_rfl) ?hQ306 ?hy306 (by assumption) ?_
      case hi306 => (simp only [List.getElem?_toArray, List.getElem?_cons_succ, List.getElem?_cons_zero]; try rfl)
      case hQ306 => exact fun _ _ _ h => h
      case hy306 => (refine Or.inl ⟨by rfl, ?_⟩; intro wq hSw; (try dsimp only at hSw); go_simp; (try rw [if_pos h0n]); (try rw [if_pos h1n]); (try rw [if_pos h2n]); (try rw [if_pos h3n]); (try rw [if_pos h0z]); (try rw [if_pos h1z]); (try rw [if_pos h2z]); (try rw [if_pos h3z]); (try with_reducible rfl))
      (try simp only [Act.put, List.setIfInBounds_toArray, List.set_cons_zero, List.set_cons_succ])
      refine wpAnyH_take (i := 6) (oi := ?oi307) (v := ?v307) ?hi307 (by kernel_rfl) (by kernel_rfl) (by kernel_rfl) ?hQ307 ?hy307 (by assumption) ?_
      case hi307 => (simp only [List.getElem?_toArray, List.getElem?_cons_succ, List.getElem?_cons_zero]; try rfl)
      case hQ307 => exact fun _ _ _ h => h
      case hy307 => (refine Or.inl ⟨by rfl, ?_⟩; intro wq hSw; (try dsimp only at hSw); go_simp; (try rw [if_pos h0n]); (try rw [if_pos h1n]); (try rw [if_pos h2n]); (try rw [if_pos h3n]); (try rw [if_pos h0z]); (try rw [if_pos h1z]); (try rw [if_pos h2z]); (try rw [if_pos h3z]); (try with_reducible rfl))
      (try simp only [Act.put, List.setIfInBounds_toArray, List.set_cons_zero, List.set_cons_succ])
      refine wpAnyH_take (i := 7) (oi := ?oi308) (v := ?v308) ?hi308 (by kernel_rfl) (by kernel_rfl) (by kernel_rfl) ?hQ308 ?hy308 (by assumption) ?_
      case hi308 => (simp only [List.getElem?_toArray, List.getElem?_cons_succ, List.getElem?_cons_zero]; try rfl)
      case hQ308 => exact fun _ _ _ h => h
      case hy308 => (refine Or.inl ⟨by rfl, ?_⟩; intro wq hSw; (try dsimp only at hSw); go_simp; (try rw [if_pos h0n]); (try rw [if_pos h1n]); (try rw [if_pos h2n]); (try rw [if_pos h3n]); (try rw [if_pos h0z]); (try rw [if_pos h1z]); (try rw [if_pos h2z]); (try rw [if_pos h3z]); (try with_reducible rfl))
      (try simp only [Act.put, List.setIfInBounds_toArray, List.set_cons_zero, List.set_cons_succ])
      refine wpAnyH_take (i := 8) (oi := ?oi309) (v := ?v309) ?hi309 (by kernel_rfl) (by kernel_rfl) (by kernel_rfl) ?hQ309 ?hy309 (by assumption) ?_
      case hi309 => (simp only [List.getElem?_toArray, List.getElem?_cons_succ, List.getElem?_cons_zero]; try rfl)
      case hQ309 => exact fun _ _ _ h => h
      case hy309 => (refine Or.inl ⟨by rfl, ?_⟩; intro wq hSw; (try dsimp only at hSw); go_simp; (try rw [if_pos h0n]); (try rw [if_pos h1n]); (try rw [if_pos h2n]); (try rw [if_pos h3n]); (try rw [if_pos h0z]); (try rw [if_pos h1z]); (try rw [if_pos h2z]); (try rw [if_pos h3z]); (try with_reducible rfl))
      (try simp only [Act.put, List.setIfInBounds_toArray, List.set_cons_zero, List.set_cons_succ])
      refine wpAnyH_ready (rs := [9]) (by kernel_rfl) (by simp) ?_
      refine AllReadyH.cons (o := ?oi310) ?hi310 ?ti310 AllReadyH.nil
      case hi310 => (simp only [List.getElem?_toArray, List.getElem?_cons_succ, List.getElem?_cons_zero]; try rfl)
      case ti310 =>
        intro KQ hKQ
        go_simp
        refine hKQ.out _ _ (by simp [go_sem, ↓IntWalk.iteOmega, *]) (fun hHeld2 => ?_)
        clear hHeld hKQ KQ; have hHeld := hHeld2; clear hHeld2
        (try simp only [Act.put, List.setIfInBounds_toArray, List.set_cons_zero, List.set_cons_succ])
        refine wpAnyH_ready (rs := [10]) (by kernel_rfl) (by simp) ?_
        refine AllReadyH.cons (o := ?oi311) ?hi311 ?ti311 AllReadyH.nil
        case hi311 => (simp only [List.getElem?_toArray, List.getElem?_cons_succ, List.getElem?_cons_zero]; try rfl)
        case ti311 =>
          intro KQ hKQ
          go_simp
          (repeat (simp only [go_sem, ↓IntWalk.iteOmega, ↓reduceIte, Bool.false_eq_true]; (try go_simp)))
          refine hKQ.out _ _ (by simp [go_sem, ↓IntWalk.iteOmega, *]) (fun hHeld2 => ?_)
          clear hHeld hKQ KQ; have hHeld := hHeld2; clear hHeld2
          (try simp only [Act.put, List.setIfInBounds_toArray, List.set_cons_zero, List.set_cons_succ])
          refine wpAnyH_done (by kernel_rfl) ?_ _
          go_wp2_with fail
          refine (relation_any (v0.i, v1.i) (v2.i, v3.i) _).mono ?_
          rintro e w1 ⟨⟨k1, bo, rfl⟩, hb1⟩
          obtain ⟨x5, rfl⟩ := hb1.get
          clear hb1
          cases bo
          · go_wp2_with fail
            refine (rnull7 _).mono ?_
            rintro e w1 ⟨rfl, hb1⟩
            obtain ⟨xn, rfl⟩ := hb1.get
            clear hb1
            go_wp2
            refine bodyPost_ret (v := vag nullV) ?_ rfl ⟨RVs.mk nullV (by decide), by repeat (first | exact Ext.refl' _ | assumption | apply Ext.ex' | apply Ext.al | apply Ext.drN | apply Ext.dr)⟩
            simp [results, Tryz.results46, go_sem, ↓IntWalk.iteOmega, nullV]
          rcases hq : (k1 == op) with _ | _
          · go_wp2_with fail
            refine (rbool_f _).mono ?_
            rintro e w1 ⟨rfl, hb1⟩
            obtain ⟨x6, rfl⟩ := hb1.get
            clear hb1
            go_wp2
            refine bodyPost_ret (v := .agg #[.int .i64 3, .int .i64 0, .string ⟨#[]⟩]) ?_ rfl ⟨RVs.mk ⟨3, 0, ⟨#[]⟩⟩ (by decide), by repeat (first | exact Ext.refl' _ | assumption | apply Ext.ex' | apply Ext.al | apply Ext.drN | apply Ext.dr)⟩
            simp [results, Tryz.results46, go_sem, ↓IntWalk.iteOmega]
          · go_wp2_with fail
            refine (rbool_t _).mono ?_
            rintro e w1 ⟨rfl, hb1⟩
            obtain ⟨x6, rfl⟩ := hb1.get
            clear hb1
            go_wp2
            refine bodyPost_ret (v := .agg #[.int .i64 3, .int .i64 1, .string ⟨#[]⟩]) ?_ rfl ⟨RVs.mk ⟨3, 1, ⟨#[]⟩⟩ (by decide), by repeat (first | exact Ext.refl' _ | assumption | apply Ext.ex' | apply Ext.al | apply Ext.drN | apply Ext.dr)⟩
            simp [results, Tryz.results46, go_sem, ↓IntWalk.iteOmega]

end Go.Proofs.YtflhikpihbenaaaGreat
