/- The periods of each table: spans of package conflict. -/
import Derived.Test.YtpifjhoelnacgaaGreatCfG
import Derived.Deep.RegionHeld3
set_option linter.unusedSimpArgs false
set_option linter.unusedVariables false
namespace Go.Proofs.YtpifjhoelnacgaaGreat
open Go.RowKit Go.Maps


set_option maxRecDepth 100000 in
set_option maxHeartbeats 8000000 in
theorem spans_any (A : Option Addr) (n c : Nat) (l : List Acc) (w : World) (hn : n = l.length) (hR : Rd w 3 A n (acl l)) (hl : l.length ≤ 1048576) (hwf : ∀ a ∈ l, a.1.size ≤ maxLen) :
    Calls Tryz.prog 29 #[.slice A n c] w fun e w' => ∃ b, e = .returned (.map (some b)) ∧ Ext w w' ∧ MapR w' b l.length (fun t => ofF (perV l t)) := by
  subst hn
  have hmm := @run_makeMap Tryz.prog
  go_enter Tryz.func29, Tryz.ntmps29
  go_wp2
  go_loopw [11] (fun i wr => ∃ (k : Nat) (D : DataW Value), i = .int .i64 k ∧ k ≤ l.length ∧ wr.ownsMap Tryz.prog 9 heldR w.heap.size k D ∧ Groups wr w.heap.size D (perV (l.take k)) ∧ Ext w wr) (fun i _ => l.length - (intOf i).toNat)
  case atStart => exact ⟨0, .map [], rfl, Nat.zero_le _, World.ownsMap_made w _ _ _, Groups.start _ _, Ext.al1 _ _⟩
  case round =>
    obtain ⟨k, D, rfl, hk, hown, hG, hE⟩ := hrel
    have hsw := hown.lt
    by_cases hlt : k < l.length
    · obtain ⟨b, o, rfl, hbw, e0, e1, e2⟩ := (hR.ext hE).acc rfl hlt
      have hsz := hwf l[k] (List.getElem_mem hlt)
      have HT := Lib.hid (fun t => (by rw [List.take_succ_eq_append_getElem hlt, perV_snoc] : perV (l.take (k + 1)) t = perV (l.take k) t ++ if tb l[k] = t ∧ pvB l[k].2 = true then [l[k].2] else []))
      generalize l[k] = a at e0 e1 e2 hsz HT
      obtain ⟨s, p1, p2⟩ := a
      simp only at e0 e1 e2 hsz
      have HV := Lib.hid (fun w => pvalid_any (p1, p2) w)
      rcases hv : pvB (p1, p2) with _ | _
      · rw [hv] at HV
        have HX : Hid (perV (l.take (k + 1)) = perV (l.take k)) := Lib.hid (by funext t; rw [HT.out]; simp [hv])
        clear hv HT
        go_wp2_with (go_at_call 21; refine Calls.mono (HV.out _) ?_; rintro e w1 ⟨rfl, hb1⟩; obtain ⟨y1, rfl⟩ := hb1.get; clear hb1)
        go_roundw
        case rel => exact ⟨k + 1, D, by go_num, by omega, (hown.kept (ext_grown (show Ext wr _ from (by repeat (first | exact Ext.refl' _ | assumption | apply Ext.ex' | apply Ext.al | apply Ext.drN | apply Ext.dr)))) (by simp)).mono (Nat.le_succ _), by rw [HX.out]; exact hG.ext (by repeat (first | exact Ext.refl' _ | assumption | apply Ext.ex' | apply Ext.al | apply Ext.drN | apply Ext.dr)), hE.tr (by repeat (first | exact Ext.refl' _ | assumption | apply Ext.ex' | apply Ext.al | apply Ext.drN | apply Ext.dr))⟩
        case measure => simp [intOf]; omega
      · rw [hv] at HV
        have HX : Hid (perV (l.take (k + 1)) = fun t => if t = s.data.toList then perV (l.take k) t ++ [(p1, p2)] else perV (l.take k) t) := Lib.hid (by
          funext t; rw [HT.out]
          by_cases ht : t = s.data.toList
          · subst ht; simp [hv, tb]
          · have : ¬ tb (s, (p1, p2)) = t := fun e => ht e.symm
            simp [this, ht])
        clear hv HT
        have hkey := key_mk hsz
        obtain ⟨v, hat, hrow⟩ := hG.row s.data.toList
        have hlen : (perV (l.take k) s.data.toList).length ≤ 1048576 := by have := perV_length (l.take k) s.data.toList; have := List.length_take_le k l; omega
        go_wp2_with (go_at_call 21; refine Calls.mono (HV.out _) ?_; rintro e w1 ⟨rfl, hb1⟩; obtain ⟨y1, rfl⟩ := hb1.get; clear hb1)
        obtain ⟨Wq, hq⟩ : ∃ Wq, ext (wr.alloc (.cells #[.string s, .int .i64 p1, .int .i64 p2] 32)) y1 = Wq := ⟨_, rfl⟩
        have hEq : Ext wr Wq := by rw [← hq]; exact (by repeat (first | exact Ext.refl' _ | assumption | apply Ext.ex' | apply Ext.al | apply Ext.drN | apply Ext.dr))
        have hEwq := hE.tr hEq
        have q0 : Wq.cell? ⟨wr.heap.size, 0, none⟩ = some (.string s) := by rw [← hq]; simp [go_sem, ↓IntWalk.iteOmega]
        have q1 : Wq.cell? ⟨wr.heap.size, 1, none⟩ = some (.int .i64 p1) := by rw [← hq]; simp [go_sem, ↓IntWalk.iteOmega]
        have q2 : Wq.cell? ⟨wr.heap.size, 2, none⟩ = some (.int .i64 p2) := by rw [← hq]; simp [go_sem, ↓IntWalk.iteOmega]
        have hWq : wr.heap.size < Wq.heap.size := by rw [← hq]; simp [size_ext]; omega
        have hownq := hown.kept (ext_grown hEq) (by simp)
        have hGq := hG.ext hEq
        have hrowq := ownsRow_ext hrow hEq
        have hnq : v.ownBlock ≠ some wr.heap.size := fun e => by have := (row_block hrow e).2.1; omega
        have hnb : some w.heap.size ≠ v.ownBlock := fun e => by
          obtain ⟨_, _, c', f', hc'⟩ := row_block hrow e.symm
          obtain ⟨es, clock, hb', _⟩ := hown
          rw [hb'] at hc'; cases hc'
        have hl1 : (Instr.lookup 53 (.map (some w.heap.size)) (.string s) false).run Tryz.prog Wq.drew = .ok v Wq.drew := look_held hownq.drew keyT Tryz.underlying53 (Tryz.zeroValue44 _) hkey hat
        have hl2 : (Instr.lookup 53 (.map (some w.heap.size)) (.string s) false).run Tryz.prog (Wq.alloc (.cells #[.int .i64 p1, .int .i64 p2] 30)).drew = .ok v (Wq.alloc (.cells #[.int .i64 p1, .int .i64 p2] 30)).drew := look_held (hownq.drew.alloc _) keyT Tryz.underlying53 (Tryz.zeroValue44 _) hkey hat
        rw [hq]
        clear hq
        refine wp_region_held_drew (S := (fun w' => w'.cell? ⟨wr.heap.size, 0, none⟩ = some (.string s) ∧ w'.cell? ⟨wr.heap.size, 1, none⟩ = some (.int .i64 p1) ∧ w'.cell? ⟨wr.heap.size, 2, none⟩ = some (.int .i64 p2))) (by kernel_rfl) (by simp [go_sem, ↓IntWalk.iteOmega, *]) (fun hHeld => ?_)
        refine wpAnyH_take (i := 0) (oi := ?oi1) (v := ?v1) ?hi1 (by kernel_rfl) (by kernel_rfl) (by kernel_rfl) ?hQ1 ?hy1 (by assumption) ?_
        case hi1 => (simp only [List.getElem?_toArray, List.getElem?_cons_succ, List.getElem?_cons_zero]; rfl)
        case hQ1 => exact fun _ _ _ h => h
        case hy1 => (refine Or.inl ⟨by rfl, ?_⟩; intro wq hSw; (try dsimp only at hSw); go_simp; (try with_reducible rfl))
        (try simp only [Act.put, List.setIfInBounds_toArray, List.set_cons_zero, List.set_cons_succ])
        refine wpAnyH_take (i := 1) (oi := ?oi2) (v := ?v2) ?hi2 (by kernel_rfl) (by kernel_rfl) (by kernel_rfl) ?hQ2 ?hy2 (by assumption) ?_
        case hi2 => (simp only [List.getElem?_toArray, List.getElem?_cons_succ, List.getElem?_cons_zero]; rfl)
        case hQ2 => exact fun _ _ _ h => h
        case hy2 => (refine Or.inl ⟨by rfl, ?_⟩; intro wq hSw; (try dsimp only at hSw); go_simp; (try with_reducible rfl))
        (try simp only [Act.put, List.setIfInBounds_toArray, List.set_cons_zero, List.set_cons_succ])
        refine wpAnyH_take (i := 2) (oi := ?oi3) (v := ?v3) ?hi3 (by kernel_rfl) (by kernel_rfl) (by kernel_rfl) ?hQ3 ?hy3 (by assumption) ?_
        case hi3 => (simp only [List.getElem?_toArray, List.getElem?_cons_succ, List.getElem?_cons_zero]; rfl)
        case hQ3 => exact fun _ _ _ h => h
        case hy3 => (refine Or.inl ⟨by rfl, ?_⟩; intro wq hSw; (try dsimp only at hSw); go_simp; (try with_reducible rfl))
        (try simp only [Act.put, List.setIfInBounds_toArray, List.set_cons_zero, List.set_cons_succ])
        refine wpAnyH_take (i := 3) (oi := ?oi4) (v := ?v4) ?hi4 (by kernel_rfl) (by kernel_rfl) (by kernel_rfl) ?hQ4 ?hy4 (by assumption) ?_
        case hi4 => (simp only [List.getElem?_toArray, List.getElem?_cons_succ, List.getElem?_cons_zero]; rfl)
        case hQ4 => exact fun _ _ _ h => h
        case hy4 => (refine Or.inl ⟨by rfl, ?_⟩; intro wq hSw; (try dsimp only at hSw); go_simp; (try with_reducible rfl))
        (try simp only [Act.put, List.setIfInBounds_toArray, List.set_cons_zero, List.set_cons_succ])
        refine wpAnyH_take (i := 4) (oi := ?oi5) (v := ?v5) ?hi5 (by kernel_rfl) (by kernel_rfl) (by kernel_rfl) ?hQ5 ?hy5 (by assumption) ?_
        case hi5 => (simp only [List.getElem?_toArray, List.getElem?_cons_succ, List.getElem?_cons_zero]; rfl)
        case hQ5 => exact fun _ _ _ h => h
        case hy5 => (refine Or.inl ⟨by rfl, ?_⟩; intro wq hSw; (try dsimp only at hSw); go_simp; (try with_reducible rfl))
        (try simp only [Act.put, List.setIfInBounds_toArray, List.set_cons_zero, List.set_cons_succ])
        refine wpAnyH_take (i := 5) (oi := ?oi6) (v := ?v6) ?hi6 (by kernel_rfl) (by kernel_rfl) (by kernel_rfl) ?hQ6 ?hy6 (by assumption) ?_
        case hi6 => (simp only [List.getElem?_toArray, List.getElem?_cons_succ, List.getElem?_cons_zero]; rfl)
        case hQ6 => exact fun _ _ _ h => h
        case hy6 => (refine Or.inl ⟨by rfl, ?_⟩; intro wq hSw; (try dsimp only at hSw); go_simp; (try with_reducible rfl))
        (try simp only [Act.put, List.setIfInBounds_toArray, List.set_cons_zero, List.set_cons_succ])
        refine wpAnyH_take (i := 7) (oi := ?oi7) (v := ?v7) ?hi7 (by kernel_rfl) (by kernel_rfl) (by kernel_rfl) ?hQ7 ?hy7 (by assumption) ?_
        case hi7 => (simp only [List.getElem?_toArray, List.getElem?_cons_succ, List.getElem?_cons_zero]; rfl)
        case hQ7 => exact fun _ _ _ h => h
        case hy7 => (refine Or.inl ⟨by rfl, ?_⟩; intro wq hSw; (try dsimp only at hSw); go_simp; (try with_reducible rfl))
        (try simp only [Act.put, List.setIfInBounds_toArray, List.set_cons_zero, List.set_cons_succ])
        refine wpAnyH_take (i := 8) (oi := ?oi8) (v := ?v8) ?hi8 (by kernel_rfl) (by kernel_rfl) (by kernel_rfl) ?hQ8 ?hy8 (by assumption) ?_
        case hi8 => (simp only [List.getElem?_toArray, List.getElem?_cons_succ, List.getElem?_cons_zero]; rfl)
        case hQ8 => exact fun _ _ _ h => h
        case hy8 => (refine Or.inl ⟨by rfl, ?_⟩; intro wq hSw; (try dsimp only at hSw); go_simp; (try with_reducible rfl))
        (try simp only [Act.put, List.setIfInBounds_toArray, List.set_cons_zero, List.set_cons_succ])
        refine wpAnyH_ready (rs := [6, 9]) (by kernel_rfl) (by simp) ?_
        refine AllReadyH.cons (o := ?oi9) ?hi9 ?ti9 ?ri9
        case hi9 => (simp only [List.getElem?_toArray, List.getElem?_cons_succ, List.getElem?_cons_zero]; rfl)
        case ti9 =>
          intro KQ hKQ
          go_simp
          
          skip
          refine hKQ.out _ _ (by first | exact hHeld | simp [go_sem, ↓IntWalk.iteOmega, *]) (fun hHeld2 => ?_)
          clear hHeld hKQ KQ; have hHeld := hHeld2; clear hHeld2
          (try simp only [Act.put, List.setIfInBounds_toArray, List.set_cons_zero, List.set_cons_succ])
          refine wpAnyH_ready (rs := [9]) (by kernel_rfl) (by simp) ?_
          refine AllReadyH.cons (o := ?oi10) ?hi10 ?ti10 AllReadyH.nil
          case hi10 => (simp only [List.getElem?_toArray, List.getElem?_cons_succ, List.getElem?_cons_zero]; rfl)
          case ti10 =>
            intro KQ hKQ
            go_simp
            
            skip
            refine hKQ.out _ _ (by first | exact hHeld | simp [go_sem, ↓IntWalk.iteOmega, *]) (fun hHeld2 => ?_)
            clear hHeld hKQ KQ; have hHeld := hHeld2; clear hHeld2
            (try simp only [Act.put, List.setIfInBounds_toArray, List.set_cons_zero, List.set_cons_succ])
            refine wpAnyH_ready (rs := [10]) (by kernel_rfl) (by simp) ?_
            refine AllReadyH.cons (o := ?oi11) ?hi11 ?ti11 AllReadyH.nil
            case hi11 => (simp only [List.getElem?_toArray, List.getElem?_cons_succ, List.getElem?_cons_zero]; rfl)
            case ti11 =>
              intro KQ hKQ
              refine step_app2 _ (by rfl) (.tmp 24) (.tmp 27) (by rfl) elPeriod w (hEwq.tr (by repeat (first | exact Ext.refl' _ | assumption | apply Ext.ex' | apply Ext.al | apply Ext.drN | apply Ext.dr))) v (perV (l.take k) s.data.toList).length (pc (perV (l.take k) s.data.toList)) (by rfl) (World.ownsRow.alloc (by exact hrowq) _) _ 1 1 [.int .i64 p1, .int .i64 p2] (by rfl) (Rd.lit _ _ _ 1 2 rfl (by simp [size_ext])) (oneCell_pc [(p1, p2)]) (by unfold maxLen; omega) (by omega) ?_
              intro v' x' hown' hg' hblk'
              have z0 := gcell hg' (v := .string s) (o := 0) (by simp; omega) hnq (by simp [go_sem, ↓IntWalk.iteOmega, q0]); have z1 := gcell hg' (v := .int .i64 p1) (o := 1) (by simp; omega) hnq (by simp [go_sem, ↓IntWalk.iteOmega, q1]); have z2 := gcell hg' (v := .int .i64 p2) (o := 2) (by simp; omega) hnq (by simp [go_sem, ↓IntWalk.iteOmega, q2])
              have hown3 := (hownq.drew.alloc (.cells #[.int .i64 p1, .int .i64 p2] 30)).kept hg' hnb
              refine hKQ.out _ _ (by first | exact hHeld | simp [go_sem, ↓IntWalk.iteOmega, *]) (fun hHeld2 => ?_)
              clear hHeld hKQ KQ; have hHeld := hHeld2; clear hHeld2
              (try simp only [Act.put, List.setIfInBounds_toArray, List.set_cons_zero, List.set_cons_succ])
              refine wpAnyH_ready (rs := [11]) (by kernel_rfl) (by simp) ?_
              refine AllReadyH.cons (o := ?oi12) ?hi12 ?ti12 AllReadyH.nil
              case hi12 => (simp only [List.getElem?_toArray, List.getElem?_cons_succ, List.getElem?_cons_zero]; rfl)
              case ti12 =>
                intro KQ hKQ
                refine step_upd (by rfl) (.tmp 18) (.tmp 20) (.tmp 28) 53 (by rfl) 44 keyT Tryz.underlying53 w.heap.size k (by rfl) hown3 (by unfold maxLen; omega) (.string s) v' (.string s.data.toList) (by rfl) (by rfl) hkey (.held v') [] rfl ?_
                intro w6 hown6 hg6
                have u0 := gcell hg6 (v := .string s) (o := 0) (Nat.lt_of_lt_of_le (by simp; omega) hg'.size) (by simp; omega) (z0); have u1 := gcell hg6 (v := .int .i64 p1) (o := 1) (Nat.lt_of_lt_of_le (by simp; omega) hg'.size) (by simp; omega) (z1); have u2 := gcell hg6 (v := .int .i64 p2) (o := 2) (Nat.lt_of_lt_of_le (by simp; omega) hg'.size) (by simp; omega) (z2)
                refine hKQ.out _ _ (by first | exact hHeld | simp [go_sem, ↓IntWalk.iteOmega, *]) (fun hHeld2 => ?_)
                clear hHeld hKQ KQ; have hHeld := hHeld2; clear hHeld2
                (try simp only [Act.put, List.setIfInBounds_toArray, List.set_cons_zero, List.set_cons_succ])
                refine wpAnyH_done (by kernel_rfl) ?_ _
                go_wp2
                go_roundw
                case rel =>
                  refine ⟨k + 1, _, by go_num, by omega, hown6, ?_, Below.grown (Ext.ex w x') hg6 (by simp [size_ext]) (fun j hj => by cases hj; exact Nat.le_refl _)⟩
                  rw [HX.out]
                  exact ((hGq.ext (show Ext Wq (Wq.drew.alloc (.cells #[.int .i64 p1, .int .i64 p2] 30)) from (by repeat (first | exact Ext.refl' _ | assumption | apply Ext.ex' | apply Ext.al | apply Ext.drN | apply Ext.dr)))).put hat hg' hown' hblk').kept hg6 (map_cells hown3)
                case measure => simp [intOf]; omega
        case ri9 =>
          refine AllReadyH.cons (o := ?oi13) ?hi13 ?ti13 AllReadyH.nil
          case hi13 => (simp only [List.getElem?_toArray, List.getElem?_cons_succ, List.getElem?_cons_zero]; rfl)
          case ti13 =>
            intro KQ hKQ
            go_simp
            
            skip
            refine hKQ.out _ _ (by first | exact hHeld | simp [go_sem, ↓IntWalk.iteOmega, *]) (fun hHeld2 => ?_)
            clear hHeld hKQ KQ; have hHeld := hHeld2; clear hHeld2
            (try simp only [Act.put, List.setIfInBounds_toArray, List.set_cons_zero, List.set_cons_succ])
            refine wpAnyH_ready (rs := [6]) (by kernel_rfl) (by simp) ?_
            refine AllReadyH.cons (o := ?oi14) ?hi14 ?ti14 AllReadyH.nil
            case hi14 => (simp only [List.getElem?_toArray, List.getElem?_cons_succ, List.getElem?_cons_zero]; rfl)
            case ti14 =>
              intro KQ hKQ
              go_simp
              
              skip
              refine hKQ.out _ _ (by first | exact hHeld | simp [go_sem, ↓IntWalk.iteOmega, *]) (fun hHeld2 => ?_)
              clear hHeld hKQ KQ; have hHeld := hHeld2; clear hHeld2
              (try simp only [Act.put, List.setIfInBounds_toArray, List.set_cons_zero, List.set_cons_succ])
              refine wpAnyH_ready (rs := [10]) (by kernel_rfl) (by simp) ?_
              refine AllReadyH.cons (o := ?oi15) ?hi15 ?ti15 AllReadyH.nil
              case hi15 => (simp only [List.getElem?_toArray, List.getElem?_cons_succ, List.getElem?_cons_zero]; rfl)
              case ti15 =>
                intro KQ hKQ
                refine step_app2 _ (by rfl) (.tmp 24) (.tmp 27) (by rfl) elPeriod w (hEwq.tr (by repeat (first | exact Ext.refl' _ | assumption | apply Ext.ex' | apply Ext.al | apply Ext.drN | apply Ext.dr))) v (perV (l.take k) s.data.toList).length (pc (perV (l.take k) s.data.toList)) (by rfl) (World.ownsRow.alloc (by exact hrowq) _) _ 1 1 [.int .i64 p1, .int .i64 p2] (by rfl) (Rd.lit _ _ _ 1 2 rfl (by simp [size_ext])) (oneCell_pc [(p1, p2)]) (by unfold maxLen; omega) (by omega) ?_
                intro v' x' hown' hg' hblk'
                have z0 := gcell hg' (v := .string s) (o := 0) (by simp; omega) hnq (by simp [go_sem, ↓IntWalk.iteOmega, q0]); have z1 := gcell hg' (v := .int .i64 p1) (o := 1) (by simp; omega) hnq (by simp [go_sem, ↓IntWalk.iteOmega, q1]); have z2 := gcell hg' (v := .int .i64 p2) (o := 2) (by simp; omega) hnq (by simp [go_sem, ↓IntWalk.iteOmega, q2])
                have hown3 := (hownq.drew.alloc (.cells #[.int .i64 p1, .int .i64 p2] 30)).kept hg' hnb
                refine hKQ.out _ _ (by first | exact hHeld | simp [go_sem, ↓IntWalk.iteOmega, *]) (fun hHeld2 => ?_)
                clear hHeld hKQ KQ; have hHeld := hHeld2; clear hHeld2
                (try simp only [Act.put, List.setIfInBounds_toArray, List.set_cons_zero, List.set_cons_succ])
                refine wpAnyH_ready (rs := [11]) (by kernel_rfl) (by simp) ?_
                refine AllReadyH.cons (o := ?oi16) ?hi16 ?ti16 AllReadyH.nil
                case hi16 => (simp only [List.getElem?_toArray, List.getElem?_cons_succ, List.getElem?_cons_zero]; rfl)
                case ti16 =>
                  intro KQ hKQ
                  refine step_upd (by rfl) (.tmp 18) (.tmp 20) (.tmp 28) 53 (by rfl) 44 keyT Tryz.underlying53 w.heap.size k (by rfl) hown3 (by unfold maxLen; omega) (.string s) v' (.string s.data.toList) (by rfl) (by rfl) hkey (.held v') [] rfl ?_
                  intro w6 hown6 hg6
                  have u0 := gcell hg6 (v := .string s) (o := 0) (Nat.lt_of_lt_of_le (by simp; omega) hg'.size) (by simp; omega) (z0); have u1 := gcell hg6 (v := .int .i64 p1) (o := 1) (Nat.lt_of_lt_of_le (by simp; omega) hg'.size) (by simp; omega) (z1); have u2 := gcell hg6 (v := .int .i64 p2) (o := 2) (Nat.lt_of_lt_of_le (by simp; omega) hg'.size) (by simp; omega) (z2)
                  refine hKQ.out _ _ (by first | exact hHeld | simp [go_sem, ↓IntWalk.iteOmega, *]) (fun hHeld2 => ?_)
                  clear hHeld hKQ KQ; have hHeld := hHeld2; clear hHeld2
                  (try simp only [Act.put, List.setIfInBounds_toArray, List.set_cons_zero, List.set_cons_succ])
                  refine wpAnyH_done (by kernel_rfl) ?_ _
                  go_wp2
                  go_roundw
                  case rel =>
                    refine ⟨k + 1, _, by go_num, by omega, hown6, ?_, Below.grown (Ext.ex w x') hg6 (by simp [size_ext]) (fun j hj => by cases hj; exact Nat.le_refl _)⟩
                    rw [HX.out]
                    exact ((hGq.ext (show Ext Wq (Wq.drew.alloc (.cells #[.int .i64 p1, .int .i64 p2] 30)) from (by repeat (first | exact Ext.refl' _ | assumption | apply Ext.ex' | apply Ext.al | apply Ext.drN | apply Ext.dr)))).put hat hg' hown' hblk').kept hg6 (map_cells hown3)
                  case measure => simp [intOf]; omega
    · have hkl : k = l.length := by omega
      subst hkl
      rw [List.take_length] at hG
      go_wp2_with (at_range; refine wpList_range_own _ rfl _ 53 rfl 9 44 keyT Tryz.underlying53 heldR w.heap.size l.length D rfl hown ?_; intro w0 hrg0 hg0 hs0)
      go_frame
      have hE0 : Ext w w0 := Below.grown hE hg0 hE.size (fun j hj => by cases hj)
      have hM0 : MapD w0 D (fun t => if Maps.has D (.string t) then perV l t else ofF (perV l t)) := by
        have h1 := hG.mapD.kept hg0 (fun _ e => by cases e)
        have h2 : (fun t => if Maps.has D (.string t) then perV l t else ofF (perV l t)) = perV l := by
          funext t
          rw [hG.has t]
          by_cases h : perV l t = []
          · simp [h]; decide +kernel
          · simp [h]
        rw [h2]; exact h1
      have hH := hG.has
      have hE0' := hE.size
      clear hG hown hE hg0 hsw hs0
      have hrlo := hE0'
      clear hE0'
      generalize wr.heap.size = r at hrg0 hrlo ⊢
      go_loopw [6] (fun _ wr => ∃ (D : DataW Value) (left : Lit → Bool) (cnt : Nat), wr.ranges Tryz.prog 9 heldR w.heap.size r l.length D left cnt ∧ MapD wr D (fun t => if left (.string t) then perV l t else ofF (perV l t)) ∧ (∀ t, Maps.has D (.string t) = decide (perV l t ≠ [])) ∧ Ext w wr) (fun _ wr => wr.rangeLeft w.heap.size r)
      case atStart => exact ⟨D, _, _, hrg0, hM0, hH, hE0⟩
      case round =>
        obtain ⟨D, left, cnt, hrg, hM, hH, hE⟩ := hrel
        go_wp2_with (at_next; refine wpList_next_ranges _ rfl _ rfl 9 keyT heldR (fun s : ByteArray => .string s) (fun v : Value => v) (fun key kl h => by obtain ⟨x, hx, _⟩ := Maps.keyOf_str Tryz.underlying9 h; exact ⟨_, hx⟩) (fun v y _ => ⟨v, rfl⟩) w.heap.size r l.length D left cnt rfl hrg ?_ ?_)
        · intro hc0 hl0
          go_wp2
          go_ret
          refine ⟨w.heap.size, rfl, hE, D, hrg.owns, ?_, fun t => ?_⟩
          · have : (fun t => if left (.string t) then perV l t else ofF (perV l t)) = fun t => ofF (perV l t) := by funext t; rw [hl0]; rfl
            rw [← this]; exact hM
          · rw [hH t, ofF_nil (perV_valid l t)]
        · intro x v kl yd yp w1 cnt1 hkx hlx hv hat hrg1 hlt hg1 hs1 hen
          obtain ⟨x', hx', rfl, hlen⟩ := Maps.keyOf_str Tryz.underlying9 hkx
          have hxd : x.data.toList = x' := by
            have hx' : Value.string x = Value.string ⟨x'.toArray⟩ := hx'
            injection hx' with hx'
            rw [hx']
          subst hxd
          obtain ⟨A2, n2, c2, g1, g2, g3⟩ := hM.2 x.data.toList
          rw [hat] at g1
          have hv : DataW.held v = yd := by have h := hv; simp [heldR] at h; exact h.1
          subst hv
          injection g1 with g1
          subst g1
          simp only [hlx, if_true] at g2 g3
          have hM1 := hM.kept hg1 (World.ranges.iter hrg)
          have g3 := g3.kept hg1 (World.ranges.iter hrg)
          have hE1 : Ext w w1 := Below.grown hE hg1 (by have := hrg.lt; have := hE.size; omega) (fun j hj => by cases hj; exact hrlo)
          have HO := Lib.hid (fun w h => sof_any A2 c2 (perV l x.data.toList) w h (by have := perV_length l x.data.toList; omega))
          have hin := World.ranges.has_left hrg keyT hlx
          subst g2
          go_wp2_with (first | (go_at_call 37; refine Calls.mono (HO.out _ g3) ?_; rintro e w2 ⟨A3, c3, rfl, hb2, hP⟩) | (at_mapUpdate; refine wpList_upd_ranges rfl _ _ _ 53 rfl 44 keyT Tryz.underlying53 rfl (hrg1.kept (ext_grown hb2) (by simp) (by simp)) (by unfold maxLen; omega) (.string x) _ (.string x.data.toList) rfl rfl hkx (.held (.slice A3 _ c3)) [] rfl hin ?_; intro w3 hrg3 hg3 hs3; go_frame))
          go_roundw
          case rel =>
            have hEw3 : Ext w w3 := Below.grown (hE1.tr hb2) hg3 (hE1.tr hb2).size (fun j hj => by cases hj; exact Nat.le_refl _)
            refine ⟨_, _, cnt1, hrg3, ?_, fun t => ?_, hEw3⟩
            · have hmc := map_cells (hrg1.owns.kept (ext_grown hb2) (by simp))
              refine (hM1.kept (ext_grown hb2) (fun _ e => by cases e)).kept hg3 hmc |>.put ?_ ?_ ?_
              · rw [sameKey_self' x.data.toList]; simp
              · rw [sameKey_self' x.data.toList]; simpa using hP.kept hg3 hmc
              · intro t ht
                rw [sameKey_ne (by simpa using ht)]
                simp
            · by_cases ht : t = x.data.toList
              · subst ht
                rw [has_put_same hM.1 (by trivial), ← hH, hin]
              · rw [has_put_other (by simpa using ht), hH]
          case measure => rw [hrg3.left_eq, hrg.left_eq]; exact hlt

end Go.Proofs.YtpifjhoelnacgaaGreat
