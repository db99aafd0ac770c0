/- The walks of the laws ConflictMerge and ConflictOverlap. -/
import Derived.Test.YtpifjhoelnacgaaGreatCfF
import Derived.Test.YtpifjhoelnacgaaGreatCfAd
import Derived.Deep.RegionHeld3
set_option linter.unusedSimpArgs false
set_option linter.unusedVariables false
namespace Go.Proofs.YtpifjhoelnacgaaGreat
open Go.RowKit


theorem same_yes (A B : Option Addr) (c d : Nat) (r : List Acc) (W : World) (ha : Rd W 3 A r.length (acl r)) (hb : Rd W 3 B r.length (acl r)) (hl : r.length ≤ 1048577) : Calls Tryz.prog 8 #[.slice A r.length c, .slice B r.length d] W fun e w' => e = .returned (.bool true) ∧ Ext W w' := by
  refine Calls.mono (sameA_any A B r.length r.length c d r r W rfl rfl ha hb (by omega) (by omega)) ?_
  rintro e w1 ⟨he, hx⟩
  rw [decide_eq_true rfl] at he
  exact ⟨he, hx⟩
set_option maxRecDepth 100000 in
set_option maxHeartbeats 8000000 in
theorem lawMerge_any (A : Option Addr) (c : Nat) (l : List Acc) (a : Acc) (s : ByteArray) (w : World) (hR : Rd w 3 A l.length (l.flatMap ac)) (hc : l.length ≤ c) (hm : c ≤ maxLen) (hwf : ∀ a ∈ l, a.1.size ≤ maxLen) (ha : a.1.size ≤ maxLen) :
    Calls Tryz.prog 5 #[.slice A l.length c, acg a, .string s] w fun e w' => e = .returned (.bool true) ∧ Ext w w' := by
  have hR : Rd w 3 A l.length (acl l) := hR
  have hm2 : l.length ≤ 9223372036854775807 := by unfold maxLen at hm; omega
  by_cases hbig : 100 < l.length
  · clear hwf
    go_enter Tryz.func5, Tryz.ntmps5
    go_wp2_with (go_at_call 7; (with_reducible refine Calls.mono (works_any _) ?_); rintro e w1 ⟨rfl, hb1⟩; obtain ⟨yw, rfl⟩ := hb1.get; clear hb1)
    go_ret
    exact ⟨rfl, by repeat (first | exact Ext.refl' _ | assumption | apply Ext.ex' | apply Ext.al | apply Ext.drN | apply Ext.dr)⟩
  · have HM := Lib.hid (fun w h => merge_any A l.length c l w rfl h (by omega) hwf)
    have HA := Lib.hid (fun w h => add_any A l.length c l a w rfl hc hm h (by omega) hwf ha)
    have HRM : Hid (∀ W, Rd W 3 A l.length (acl l) → Calls Tryz.prog 14 #[.slice A l.length c] W fun e w' => ∃ A' c' r, e = .returned (.slice A' r.length c') ∧ Ext W w' ∧ Rd w' 3 A' r.length (acl r) ∧ Stands l r) := Lib.hid (fun W h => rmerge_any A l.length c l W rfl h (by omega))
    have HRA : Hid (∀ W, Rd W 3 A l.length (acl l) → Calls Tryz.prog 16 #[.slice A l.length c, acg a] W fun e w' => ∃ A' c' r, e = .returned (.slice A' r.length c') ∧ Ext W w' ∧ Rd w' 3 A' r.length (acl r) ∧ Stands (l ++ [a]) r) := Lib.hid (fun W h => radd_any A l.length c l a W rfl h (by omega))
    have HT := Lib.hid (fun w h => touches_any A l.length c l s w rfl h hm2)
    have HRT := Lib.hid (fun w h => rtouches_any A l.length c l s w rfl h hm2)
    have HS := Lib.hid same_yes
    generalize touF s.data.toList l = tq at HT HRT
    clear hwf ha hc hm
    go_enter Tryz.func5, Tryz.ntmps5
    go_wp2_with fail
    have hE0 : Ext w (w.alloc (.cells #[.string a.1, .int .i64 a.2.1, .int .i64 a.2.2] 32)) := (by repeat (first | exact Ext.refl' _ | assumption | apply Ext.ex' | apply Ext.al | apply Ext.drN | apply Ext.dr))
    have hR := hR.ext hE0
    have hbs : w.heap.size < (w.alloc (.cells #[.string a.1, .int .i64 a.2.1, .int .i64 a.2.2] 32)).heap.size := by simp
    have z0 : (w.alloc (.cells #[.string a.1, .int .i64 a.2.1, .int .i64 a.2.2] 32)).cell? ⟨w.heap.size, 0, none⟩ = some (.string a.1) := by simp [go_sem, ↓IntWalk.iteOmega]
    have z1 : (w.alloc (.cells #[.string a.1, .int .i64 a.2.1, .int .i64 a.2.2] 32)).cell? ⟨w.heap.size, 1, none⟩ = some (.int .i64 a.2.1) := by simp [go_sem, ↓IntWalk.iteOmega]
    have z2 : (w.alloc (.cells #[.string a.1, .int .i64 a.2.1, .int .i64 a.2.2] 32)).cell? ⟨w.heap.size, 2, none⟩ = some (.int .i64 a.2.2) := by simp [go_sem, ↓IntWalk.iteOmega]
    generalize w.alloc (.cells #[.string a.1, .int .i64 a.2.1, .int .i64 a.2.2] 32) = Wb at hE0 hR hbs z0 z1 z2 ⊢
    generalize w.heap.size = bx at hbs z0 z1 z2 ⊢
    refine wp_region_held_drew (S := (fun w' => w'.cell? ⟨bx, 0, none⟩ = some (.string a.1) ∧ w'.cell? ⟨bx, 1, none⟩ = some (.int .i64 a.2.1) ∧ w'.cell? ⟨bx, 2, none⟩ = some (.int .i64 a.2.2))) (by kernel_rfl) (by simp [go_sem, ↓IntWalk.iteOmega, *]) (fun hHeld => ?_)
    refine wpAnyH_take (i := 0) (oi := ?oi1) (v := ?v1) ?hi1 (by kernel_rfl) (by kernel_rfl) (by kernel_rfl) ?hQ1 ?hy1 (by assumption) ?_
    case hi1 => (simp only [List.getElem?_toArray, List.getElem?_cons_succ, List.getElem?_cons_zero]; try rfl)
    case hQ1 => exact fun _ _ _ h => h
    case hy1 => (refine Or.inl ⟨by rfl, ?_⟩; intro wq hSw; (try dsimp only at hSw); go_simp; (try with_reducible rfl))
    (try simp only [Act.put, List.setIfInBounds_toArray, List.set_cons_zero, List.set_cons_succ])
    refine wpAnyH_take (i := 2) (oi := ?oi2) (v := ?v2) ?hi2 (by kernel_rfl) (by kernel_rfl) (by kernel_rfl) ?hQ2 ?hy2 (by assumption) ?_
    case hi2 => (simp only [List.getElem?_toArray, List.getElem?_cons_succ, List.getElem?_cons_zero]; try rfl)
    case hQ2 => exact fun _ _ _ h => h
    case hy2 => (refine Or.inl ⟨by rfl, ?_⟩; intro wq hSw; (try dsimp only at hSw); go_simp; (try with_reducible rfl))
    (try simp only [Act.put, List.setIfInBounds_toArray, List.set_cons_zero, List.set_cons_succ])
    refine wpAnyH_ready (rs := [1]) (by kernel_rfl) (by simp) ?_
    refine AllReadyH.cons (o := ?oi3) ?hi3 ?ti3 AllReadyH.nil
    case hi3 => (simp only [List.getElem?_toArray, List.getElem?_cons_succ, List.getElem?_cons_zero]; try rfl)
    case ti3 =>
      intro KQ hKQ
      go_simp
      go_at_call 13
      refine Calls.mono (HM.out _ (hR.ext (by repeat (first | exact Ext.refl' _ | assumption | apply Ext.ex' | apply Ext.al | apply Ext.drN | apply Ext.dr)))) ?_
      rintro e w1 ⟨A1, c1, r, rfl, hb1, hR1, hst⟩
      obtain ⟨x1, rfl⟩ := hb1.get
      clear hb1
      have hrl := hst.le
      refine hKQ.out _ _ (by simp [go_sem, ↓IntWalk.iteOmega, *]) (fun hHeld2 => ?_)
      clear hHeld hKQ KQ; have hHeld := hHeld2; clear hHeld2
      (try simp only [Act.put, List.setIfInBounds_toArray, List.set_cons_zero, List.set_cons_succ])
      refine wpAnyH_ready (rs := [3]) (by kernel_rfl) (by simp) ?_
      refine AllReadyH.cons (o := ?oi4) ?hi4 ?ti4 AllReadyH.nil
      case hi4 => (simp only [List.getElem?_toArray, List.getElem?_cons_succ, List.getElem?_cons_zero]; try rfl)
      case ti4 =>
        intro KQ hKQ
        go_simp
        go_at_call 14
        refine Calls.mono (HRM.out _ (hR.ext (by repeat (first | exact Ext.refl' _ | assumption | apply Ext.ex' | apply Ext.al | apply Ext.drN | apply Ext.dr)))) ?_
        rintro e w1 ⟨A2, c2, r2, rfl, hb1, hR2, hq2⟩
        obtain ⟨x2, rfl⟩ := hb1.get
        clear hb1
        have e2 := hst.eq hq2
        subst e2
        refine hKQ.out _ _ (by simp [go_sem, ↓IntWalk.iteOmega, *]) (fun hHeld2 => ?_)
        clear hHeld hKQ KQ; have hHeld := hHeld2; clear hHeld2
        (try simp only [Act.put, List.setIfInBounds_toArray, List.set_cons_zero, List.set_cons_succ])
        refine wpAnyH_ready (rs := [4]) (by kernel_rfl) (by simp) ?_
        refine AllReadyH.cons (o := ?oi5) ?hi5 ?ti5 AllReadyH.nil
        case hi5 => (simp only [List.getElem?_toArray, List.getElem?_cons_succ, List.getElem?_cons_zero]; try rfl)
        case ti5 =>
          intro KQ hKQ
          go_simp
          go_at_call 8
          refine Calls.mono (HS.out A1 A2 c1 c2 r _ (hR1.ext (by repeat (first | exact Ext.refl' _ | assumption | apply Ext.ex' | apply Ext.al | apply Ext.drN | apply Ext.dr))) (hR2.ext (by repeat (first | exact Ext.refl' _ | assumption | apply Ext.ex' | apply Ext.al | apply Ext.drN | apply Ext.dr))) (by omega)) ?_
          rintro e w1 ⟨rfl, hb1⟩
          obtain ⟨x4, rfl⟩ := hb1.get
          clear hb1
          clear hR1 hR2 hst hrl hq2
          refine hKQ.out _ _ (by simp [go_sem, ↓IntWalk.iteOmega, *]) (fun hHeld2 => ?_)
          clear hHeld hKQ KQ; have hHeld := hHeld2; clear hHeld2
          (try simp only [Act.put, List.setIfInBounds_toArray, List.set_cons_zero, List.set_cons_succ])
          refine wpAnyH_take (i := 5) (oi := ?oi6) (v := ?v6) ?hi6 (by kernel_rfl) (by kernel_rfl) (by kernel_rfl) ?hQ6 ?hy6 (by assumption) ?_
          case hi6 => (simp only [List.getElem?_toArray, List.getElem?_cons_succ, List.getElem?_cons_zero]; try rfl)
          case hQ6 => exact fun _ _ _ h => h
          case hy6 => (refine Or.inl ⟨by rfl, ?_⟩; intro wq hSw; (try dsimp only at hSw); go_simp; (try with_reducible rfl))
          (try simp only [Act.put, List.setIfInBounds_toArray, List.set_cons_zero, List.set_cons_succ])
          refine wpAnyH_take (i := 6) (oi := ?oi7) (v := ?v7) ?hi7 (by kernel_rfl) (by kernel_rfl) (by kernel_rfl) ?hQ7 ?hy7 (by assumption) ?_
          case hi7 => (simp only [List.getElem?_toArray, List.getElem?_cons_succ, List.getElem?_cons_zero]; try rfl)
          case hQ7 => exact fun _ _ _ h => h
          case hy7 => (refine Or.inl ⟨by rfl, ?_⟩; intro wq hSw; (try dsimp only at hSw); go_simp; (try with_reducible rfl))
          (try simp only [Act.put, List.setIfInBounds_toArray, List.set_cons_zero, List.set_cons_succ])
          refine wpAnyH_take (i := 7) (oi := ?oi8) (v := ?v8) ?hi8 (by kernel_rfl) (by kernel_rfl) (by kernel_rfl) ?hQ8 ?hy8 (by assumption) ?_
          case hi8 => (simp only [List.getElem?_toArray, List.getElem?_cons_succ, List.getElem?_cons_zero]; try rfl)
          case hQ8 => exact fun _ _ _ h => h
          case hy8 => (refine Or.inl ⟨by rfl, ?_⟩; intro wq hSw; (try dsimp only at hSw); go_simp; (try with_reducible rfl))
          (try simp only [Act.put, List.setIfInBounds_toArray, List.set_cons_zero, List.set_cons_succ])
          refine wpAnyH_take (i := 9) (oi := ?oi9) (v := ?v9) ?hi9 (by kernel_rfl) (by kernel_rfl) (by kernel_rfl) ?hQ9 ?hy9 (by assumption) ?_
          case hi9 => (simp only [List.getElem?_toArray, List.getElem?_cons_succ, List.getElem?_cons_zero]; try rfl)
          case hQ9 => exact fun _ _ _ h => h
          case hy9 => (refine Or.inl ⟨by rfl, ?_⟩; intro wq hSw; (try dsimp only at hSw); go_simp; (try with_reducible rfl))
          (try simp only [Act.put, List.setIfInBounds_toArray, List.set_cons_zero, List.set_cons_succ])
          refine wpAnyH_take (i := 10) (oi := ?oi10) (v := ?v10) ?hi10 (by kernel_rfl) (by kernel_rfl) (by kernel_rfl) ?hQ10 ?hy10 (by assumption) ?_
          case hi10 => (simp only [List.getElem?_toArray, List.getElem?_cons_succ, List.getElem?_cons_zero]; try rfl)
          case hQ10 => exact fun _ _ _ h => h
          case hy10 => (refine Or.inl ⟨by rfl, ?_⟩; intro wq hSw; (try dsimp only at hSw); go_simp; (try with_reducible rfl))
          (try simp only [Act.put, List.setIfInBounds_toArray, List.set_cons_zero, List.set_cons_succ])
          refine wpAnyH_ready (rs := [8]) (by kernel_rfl) (by simp) ?_
          refine AllReadyH.cons (o := ?oi11) ?hi11 ?ti11 AllReadyH.nil
          case hi11 => (simp only [List.getElem?_toArray, List.getElem?_cons_succ, List.getElem?_cons_zero]; try rfl)
          case ti11 =>
            intro KQ hKQ
            go_simp
            go_at_call 15
            refine Calls.mono (HA.out _ (hR.ext (by repeat (first | exact Ext.refl' _ | assumption | apply Ext.ex' | apply Ext.al | apply Ext.drN | apply Ext.dr)))) ?_
            rintro e w1 ⟨A1, c1, r3, rfl, hb1, hR1, hst⟩
            obtain ⟨x8, rfl⟩ := hb1.get
            clear hb1
            have hrl := hst.le
            simp only [List.length_append, List.length_singleton] at hrl
            refine hKQ.out _ _ (by simp [go_sem, ↓IntWalk.iteOmega, *]) (fun hHeld2 => ?_)
            clear hHeld hKQ KQ; have hHeld := hHeld2; clear hHeld2
            (try simp only [Act.put, List.setIfInBounds_toArray, List.set_cons_zero, List.set_cons_succ])
            refine wpAnyH_ready (rs := [11]) (by kernel_rfl) (by simp) ?_
            refine AllReadyH.cons (o := ?oi12) ?hi12 ?ti12 AllReadyH.nil
            case hi12 => (simp only [List.getElem?_toArray, List.getElem?_cons_succ, List.getElem?_cons_zero]; try rfl)
            case ti12 =>
              intro KQ hKQ
              go_simp
              go_at_call 16
              refine Calls.mono (HRA.out _ (hR.ext (by repeat (first | exact Ext.refl' _ | assumption | apply Ext.ex' | apply Ext.al | apply Ext.drN | apply Ext.dr)))) ?_
              rintro e w1 ⟨A2, c2, r4, rfl, hb1, hR2, hq2⟩
              obtain ⟨x11, rfl⟩ := hb1.get
              clear hb1
              have e2 := hst.eq hq2
              subst e2
              refine hKQ.out _ _ (by simp [go_sem, ↓IntWalk.iteOmega, *]) (fun hHeld2 => ?_)
              clear hHeld hKQ KQ; have hHeld := hHeld2; clear hHeld2
              (try simp only [Act.put, List.setIfInBounds_toArray, List.set_cons_zero, List.set_cons_succ])
              refine wpAnyH_ready (rs := [12]) (by kernel_rfl) (by simp) ?_
              refine AllReadyH.cons (o := ?oi13) ?hi13 ?ti13 AllReadyH.nil
              case hi13 => (simp only [List.getElem?_toArray, List.getElem?_cons_succ, List.getElem?_cons_zero]; try rfl)
              case ti13 =>
                intro KQ hKQ
                go_simp
                go_at_call 8
                refine Calls.mono (HS.out A1 A2 c1 c2 r3 _ (hR1.ext (by repeat (first | exact Ext.refl' _ | assumption | apply Ext.ex' | apply Ext.al | apply Ext.drN | apply Ext.dr))) (hR2.ext (by repeat (first | exact Ext.refl' _ | assumption | apply Ext.ex' | apply Ext.al | apply Ext.drN | apply Ext.dr))) (by omega)) ?_
                rintro e w1 ⟨rfl, hb1⟩
                obtain ⟨x12, rfl⟩ := hb1.get
                clear hb1
                clear hR1 hR2 hst hrl hq2
                refine hKQ.out _ _ (by simp [go_sem, ↓IntWalk.iteOmega, *]) (fun hHeld2 => ?_)
                clear hHeld hKQ KQ; have hHeld := hHeld2; clear hHeld2
                (try simp only [Act.put, List.setIfInBounds_toArray, List.set_cons_zero, List.set_cons_succ])
                refine wpAnyH_take (i := 13) (oi := ?oi14) (v := ?v14) ?hi14 (by kernel_rfl) (by kernel_rfl) (by kernel_rfl) ?hQ14 ?hy14 (by assumption) ?_
                case hi14 => (simp only [List.getElem?_toArray, List.getElem?_cons_succ, List.getElem?_cons_zero]; try rfl)
                case hQ14 => exact fun _ _ _ h => h
                case hy14 => (refine Or.inl ⟨by rfl, ?_⟩; intro wq hSw; (try dsimp only at hSw); go_simp; (try with_reducible rfl))
                (try simp only [Act.put, List.setIfInBounds_toArray, List.set_cons_zero, List.set_cons_succ])
                refine wpAnyH_take (i := 14) (oi := ?oi15) (v := ?v15) ?hi15 (by kernel_rfl) (by kernel_rfl) (by kernel_rfl) ?hQ15 ?hy15 (by assumption) ?_
                case hi15 => (simp only [List.getElem?_toArray, List.getElem?_cons_succ, List.getElem?_cons_zero]; try rfl)
                case hQ15 => exact fun _ _ _ h => h
                case hy15 => (refine Or.inl ⟨by rfl, ?_⟩; intro wq hSw; (try dsimp only at hSw); go_simp; (try with_reducible rfl))
                (try simp only [Act.put, List.setIfInBounds_toArray, List.set_cons_zero, List.set_cons_succ])
                refine wpAnyH_take (i := 15) (oi := ?oi16) (v := ?v16) ?hi16 (by kernel_rfl) (by kernel_rfl) (by kernel_rfl) ?hQ16 ?hy16 (by assumption) ?_
                case hi16 => (simp only [List.getElem?_toArray, List.getElem?_cons_succ, List.getElem?_cons_zero]; try rfl)
                case hQ16 => exact fun _ _ _ h => h
                case hy16 => (refine Or.inl ⟨by rfl, ?_⟩; intro wq hSw; (try dsimp only at hSw); go_simp; (try with_reducible rfl))
                (try simp only [Act.put, List.setIfInBounds_toArray, List.set_cons_zero, List.set_cons_succ])
                refine wpAnyH_take (i := 16) (oi := ?oi17) (v := ?v17) ?hi17 (by kernel_rfl) (by kernel_rfl) (by kernel_rfl) ?hQ17 ?hy17 (by assumption) ?_
                case hi17 => (simp only [List.getElem?_toArray, List.getElem?_cons_succ, List.getElem?_cons_zero]; try rfl)
                case hQ17 => exact fun _ _ _ h => h
                case hy17 => (refine Or.inl ⟨by rfl, ?_⟩; intro wq hSw; (try dsimp only at hSw); go_simp; (try with_reducible rfl))
                (try simp only [Act.put, List.setIfInBounds_toArray, List.set_cons_zero, List.set_cons_succ])
                refine wpAnyH_take (i := 18) (oi := ?oi18) (v := ?v18) ?hi18 (by kernel_rfl) (by kernel_rfl) (by kernel_rfl) ?hQ18 ?hy18 (by assumption) ?_
                case hi18 => (simp only [List.getElem?_toArray, List.getElem?_cons_succ, List.getElem?_cons_zero]; try rfl)
                case hQ18 => exact fun _ _ _ h => h
                case hy18 => (refine Or.inl ⟨by rfl, ?_⟩; intro wq hSw; (try dsimp only at hSw); go_simp; (try with_reducible rfl))
                (try simp only [Act.put, List.setIfInBounds_toArray, List.set_cons_zero, List.set_cons_succ])
                refine wpAnyH_take (i := 19) (oi := ?oi19) (v := ?v19) ?hi19 (by kernel_rfl) (by kernel_rfl) (by kernel_rfl) ?hQ19 ?hy19 (by assumption) ?_
                case hi19 => (simp only [List.getElem?_toArray, List.getElem?_cons_succ, List.getElem?_cons_zero]; try rfl)
                case hQ19 => exact fun _ _ _ h => h
                case hy19 => (refine Or.inl ⟨by rfl, ?_⟩; intro wq hSw; (try dsimp only at hSw); go_simp; (try with_reducible rfl))
                (try simp only [Act.put, List.setIfInBounds_toArray, List.set_cons_zero, List.set_cons_succ])
                refine wpAnyH_ready (rs := [17]) (by kernel_rfl) (by simp) ?_
                refine AllReadyH.cons (o := ?oi20) ?hi20 ?ti20 AllReadyH.nil
                case hi20 => (simp only [List.getElem?_toArray, List.getElem?_cons_succ, List.getElem?_cons_zero]; try rfl)
                case ti20 =>
                  intro KQ hKQ
                  go_simp
                  go_at_call 17
                  refine Calls.mono (HT.out _ (hR.ext (by repeat (first | exact Ext.refl' _ | assumption | apply Ext.ex' | apply Ext.al | apply Ext.drN | apply Ext.dr)))) ?_
                  rintro e w1 ⟨rfl, hb1⟩
                  obtain ⟨x17, rfl⟩ := hb1.get
                  clear hb1
                  refine hKQ.out _ _ (by simp [go_sem, ↓IntWalk.iteOmega, *]) (fun hHeld2 => ?_)
                  clear hHeld hKQ KQ; have hHeld := hHeld2; clear hHeld2
                  (try simp only [Act.put, List.setIfInBounds_toArray, List.set_cons_zero, List.set_cons_succ])
                  refine wpAnyH_ready (rs := [20]) (by kernel_rfl) (by simp) ?_
                  refine AllReadyH.cons (o := ?oi21) ?hi21 ?ti21 AllReadyH.nil
                  case hi21 => (simp only [List.getElem?_toArray, List.getElem?_cons_succ, List.getElem?_cons_zero]; try rfl)
                  case ti21 =>
                    intro KQ hKQ
                    go_simp
                    go_at_call 18
                    refine Calls.mono (HRT.out _ (hR.ext (by repeat (first | exact Ext.refl' _ | assumption | apply Ext.ex' | apply Ext.al | apply Ext.drN | apply Ext.dr)))) ?_
                    rintro e w1 ⟨rfl, hb1⟩
                    obtain ⟨x20, rfl⟩ := hb1.get
                    clear hb1
                    refine hKQ.out _ _ (by simp [go_sem, ↓IntWalk.iteOmega, *]) (fun hHeld2 => ?_)
                    clear hHeld hKQ KQ; have hHeld := hHeld2; clear hHeld2
                    (try simp only [Act.put, List.setIfInBounds_toArray, List.set_cons_zero, List.set_cons_succ])
                    refine wpAnyH_take (i := 21) (oi := ?oi22) (v := ?v22) ?hi22 (by kernel_rfl) (by kernel_rfl) (by kernel_rfl) ?hQ22 ?hy22 (by assumption) ?_
                    case hi22 => (simp only [List.getElem?_toArray, List.getElem?_cons_succ, List.getElem?_cons_zero]; try rfl)
                    case hQ22 => exact fun _ _ _ h => h
                    case hy22 => (refine Or.inl ⟨by rfl, ?_⟩; intro wq hSw; (try dsimp only at hSw); go_simp; (try with_reducible rfl))
                    (try simp only [Act.put, List.setIfInBounds_toArray, List.set_cons_zero, List.set_cons_succ])
                    refine wpAnyH_take (i := 22) (oi := ?oi23) (v := ?v23) ?hi23 (by kernel_rfl) (by kernel_rfl) (by kernel_rfl) ?hQ23 ?hy23 (by assumption) ?_
                    case hi23 => (simp only [List.getElem?_toArray, List.getElem?_cons_succ, List.getElem?_cons_zero]; try rfl)
                    case hQ23 => exact fun _ _ _ h => h
                    case hy23 => (refine Or.inl ⟨by rfl, ?_⟩; intro wq hSw; (try dsimp only at hSw); go_simp; (try with_reducible rfl))
                    (try simp only [Act.put, List.setIfInBounds_toArray, List.set_cons_zero, List.set_cons_succ])
                    refine wpAnyH_take (i := 23) (oi := ?oi24) (v := ?v24) ?hi24 (by kernel_rfl) (by kernel_rfl) (by kernel_rfl) ?hQ24 ?hy24 (by assumption) ?_
                    case hi24 => (simp only [List.getElem?_toArray, List.getElem?_cons_succ, List.getElem?_cons_zero]; try rfl)
                    case hQ24 => exact fun _ _ _ h => h
                    case hy24 => (refine Or.inl ⟨by rfl, ?_⟩; intro wq hSw; (try dsimp only at hSw); go_simp; (try with_reducible rfl))
                    (try simp only [Act.put, List.setIfInBounds_toArray, List.set_cons_zero, List.set_cons_succ])
                    refine wpAnyH_ready (rs := [24]) (by kernel_rfl) (by simp) ?_
                    refine AllReadyH.cons (o := ?oi25) ?hi25 ?ti25 AllReadyH.nil
                    case hi25 => (simp only [List.getElem?_toArray, List.getElem?_cons_succ, List.getElem?_cons_zero]; try rfl)
                    case ti25 =>
                      intro KQ hKQ
                      go_simp
                      go_at_call 7
                      refine Calls.mono (works_any _) ?_
                      rintro e w1 ⟨rfl, hb1⟩
                      obtain ⟨x24, rfl⟩ := hb1.get
                      clear hb1
                      refine hKQ.out _ _ (by simp [go_sem, ↓IntWalk.iteOmega, *]) (fun hHeld2 => ?_)
                      clear hHeld hKQ KQ; have hHeld := hHeld2; clear hHeld2
                      (try simp only [Act.put, List.setIfInBounds_toArray, List.set_cons_zero, List.set_cons_succ])
                      refine wpAnyH_take (i := 25) (oi := ?oi26) (v := ?v26) ?hi26 (by kernel_rfl) (by kernel_rfl) (by kernel_rfl) ?hQ26 ?hy26 (by assumption) ?_
                      case hi26 => (simp only [List.getElem?_toArray, List.getElem?_cons_succ, List.getElem?_cons_zero]; try rfl)
                      case hQ26 => exact fun _ _ _ h => h
                      case hy26 => (refine Or.inl ⟨by rfl, ?_⟩; intro wq hSw; (try dsimp only at hSw); go_simp; (try with_reducible rfl))
                      (try simp only [Act.put, List.setIfInBounds_toArray, List.set_cons_zero, List.set_cons_succ])
                      refine wpAnyH_take (i := 26) (oi := ?oi27) (v := ?v27) ?hi27 (by kernel_rfl) (by kernel_rfl) (by kernel_rfl) ?hQ27 ?hy27 (by assumption) ?_
                      case hi27 => (simp only [List.getElem?_toArray, List.getElem?_cons_succ, List.getElem?_cons_zero]; try rfl)
                      case hQ27 => exact fun _ _ _ h => h
                      case hy27 => (refine Or.inl ⟨by rfl, ?_⟩; intro wq hSw; (try dsimp only at hSw); go_simp; (try with_reducible rfl))
                      (try simp only [Act.put, List.setIfInBounds_toArray, List.set_cons_zero, List.set_cons_succ])
                      refine wpAnyH_done (by kernel_rfl) ?_ _
                      go_wp2
                      go_ret
                      exact ⟨rfl, hE0.tr (by repeat (first | exact Ext.refl' _ | assumption | apply Ext.ex' | apply Ext.al | apply Ext.drN | apply Ext.dr))⟩


set_option maxRecDepth 100000 in
set_option maxHeartbeats 8000000 in
theorem lawOverlap_any (A B : Option Addr) (ca cb : Nat) (la lb : List Acc) (w : World) (hA : Rd w 3 A la.length (la.flatMap ac)) (hB : Rd w 3 B lb.length (lb.flatMap ac)) (hna : la.length ≤ 9223372036854775807) (hnb : lb.length ≤ 9223372036854775807) (hwa : ∀ a ∈ la, a.1.size ≤ maxLen) (hwb : ∀ a ∈ lb, a.1.size ≤ maxLen) :
    Calls Tryz.prog 4 #[.slice A la.length ca, .slice B lb.length cb] w fun e w' => e = .returned (.bool true) ∧ Ext w w' := by
  have hA : Rd w 3 A la.length (acl la) := hA
  have hB : Rd w 3 B lb.length (acl lb) := hB
  by_cases hbig : 60 < la.length
  · clear hwa hwb
    go_enter Tryz.func4, Tryz.ntmps4
    go_wp2_with (go_at_call 7; (with_reducible refine Calls.mono (works_any _) ?_); rintro e w1 ⟨rfl, hb1⟩; obtain ⟨yw, rfl⟩ := hb1.get; clear hb1)
    go_ret
    exact ⟨rfl, by repeat (first | exact Ext.refl' _ | assumption | apply Ext.ex' | apply Ext.al | apply Ext.drN | apply Ext.dr)⟩
  · by_cases hbig2 : 60 < lb.length
    · clear hwa hwb
      go_enter Tryz.func4, Tryz.ntmps4
      go_wp2_with (go_at_call 7; (with_reducible refine Calls.mono (works_any _) ?_); rintro e w1 ⟨rfl, hb1⟩; obtain ⟨yw, rfl⟩ := hb1.get; clear hb1)
      go_ret
      exact ⟨rfl, by repeat (first | exact Ext.refl' _ | assumption | apply Ext.ex' | apply Ext.al | apply Ext.drN | apply Ext.dr)⟩
    · have HO1 := Lib.hid (fun w h k => overlap_any A B la.length lb.length ca cb la lb w rfl rfl h k (by omega) (by omega) hwa hwb)
      have HO3 := Lib.hid (fun w h k => overlap_any B A lb.length la.length cb ca lb la w rfl rfl h k (by omega) (by omega) hwb hwa)
      have HO2 := Lib.hid (fun w h k => roverlap_any A B la.length lb.length ca cb la lb w rfl rfl h k (by omega) (by omega))
      have HQ : Hid (∀ r s, Common la lb r → Common la lb s → r = s) := Lib.hid (fun r s h k => h.eq k)
      clear hwa hwb
      go_enter Tryz.func4, Tryz.ntmps4
      go_wp2_with fail
      go_at_call 11
      (with_reducible refine Calls.mono (HO1.out _ (hA.ext (by repeat (first | exact Ext.refl' _ | assumption | apply Ext.ex' | apply Ext.al | apply Ext.drN | apply Ext.dr))) (hB.ext (by repeat (first | exact Ext.refl' _ | assumption | apply Ext.ex' | apply Ext.al | apply Ext.drN | apply Ext.dr)))) ?_)
      rintro e w1 ⟨r1, hc1, rfl, hb1⟩
      obtain ⟨x1, rfl⟩ := hb1.get
      clear hb1
      generalize hh : headF r1 = h1
      obtain ⟨a1, b1⟩ := h1
      go_wp2_with fail
      go_at_call 12
      (with_reducible refine Calls.mono (HO2.out _ (hA.ext (by repeat (first | exact Ext.refl' _ | assumption | apply Ext.ex' | apply Ext.al | apply Ext.drN | apply Ext.dr))) (hB.ext (by repeat (first | exact Ext.refl' _ | assumption | apply Ext.ex' | apply Ext.al | apply Ext.drN | apply Ext.dr)))) ?_)
      rintro e w1 ⟨r2, hc2, rfl, hb1⟩
      obtain ⟨x2, rfl⟩ := hb1.get
      clear hb1
      obtain rfl := HQ.out _ _ hc1 hc2
      rw [hh]
      go_wp2_with fail
      go_at_call 11
      (with_reducible refine Calls.mono (HO3.out _ (hB.ext (by repeat (first | exact Ext.refl' _ | assumption | apply Ext.ex' | apply Ext.al | apply Ext.drN | apply Ext.dr))) (hA.ext (by repeat (first | exact Ext.refl' _ | assumption | apply Ext.ex' | apply Ext.al | apply Ext.drN | apply Ext.dr)))) ?_)
      rintro e w1 ⟨r3, hc3, rfl, hb1⟩
      obtain ⟨x3, rfl⟩ := hb1.get
      clear hb1
      obtain rfl := HQ.out _ _ hc1 hc3.swap
      rw [hh]
      rcases b1 with _ | _
      · go_wp2_with (go_at_call 7; (with_reducible refine Calls.mono (works_any _) ?_); rintro e w1 ⟨rfl, hb1⟩; obtain ⟨yw, rfl⟩ := hb1.get; clear hb1)
        go_ret
        exact ⟨rfl, by repeat (first | exact Ext.refl' _ | assumption | apply Ext.ex' | apply Ext.al | apply Ext.drN | apply Ext.dr)⟩
      · go_wp2_with (go_at_call 7; (with_reducible refine Calls.mono (works_any _) ?_); rintro e w1 ⟨rfl, hb1⟩; obtain ⟨yw, rfl⟩ := hb1.get; clear hb1)
        go_ret
        exact ⟨rfl, by repeat (first | exact Ext.refl' _ | assumption | apply Ext.ex' | apply Ext.al | apply Ext.drN | apply Ext.dr)⟩

end Go.Proofs.YtpifjhoelnacgaaGreat
