/- slices.Insert with a new row and at the end; slices.Insert whole; slices.Delete of one element. -/
import Derived.Test.YtdmbgimehepfaaaBtS
import Derived.Lib.Overlaps
import Derived.Lib.SliceRun
import Derived.Laws.Externs
import Derived.Deep.RegionHeld3
set_option linter.unusedSimpArgs false
set_option linter.unusedVariables false
namespace Go.Proofs.Ytdmbgimehepfaaa
open Go.RowKit


theorem two_set {a rest news cs : List Value} {p q r : Nat} (ha : a.length = p) (hq : p + news.length = q) (hr : q + cs.length = r) :
    (((((a ++ rest).take p ++ (news ++ (a ++ rest).drop (p + news.length))).take q) ++ (cs ++ ((a ++ rest).take p ++ (news ++ (a ++ rest).drop (p + news.length))).drop (q + cs.length))).take r) = a ++ (news ++ cs) := by
  subst ha hq hr
  rw [List.take_left]
  obtain ⟨X, hX⟩ : ∃ X, (a ++ rest).drop (a.length + news.length) = X := ⟨_, rfl⟩
  rw [hX, ← List.append_assoc a news X, show a.length + news.length = (a ++ news).length by simp, List.take_left, ← List.append_assoc (a ++ news) cs, show (a ++ news).length + cs.length = ((a ++ news) ++ cs).length by simp; omega, List.take_left, List.append_assoc]
theorem grown_new {w W W' : World} {row : Option Nat} {b : Nat} (h : w.grownBy W row) (k : W.grownBy W' (some b)) (hb : w.heap.size ≤ b) : w.grownBy W' row :=
  ⟨k.os.trans h.os, k.tape.trans h.tape, k.output.trans h.output, Nat.le_trans h.size k.size, fun j hj hne => (k.block j (Nat.lt_of_lt_of_le hj h.size) (fun e => by have := Option.some.inj e; omega)).trans (h.block j hj hne)⟩


set_option maxRecDepth 100000 in
set_option maxHeartbeats 8000000 in
theorem insGP_any (base g cap n i vb vc : Nat) (cur news : List Value) (w : World) (hbw : base ≤ w.heap.size) (hB : Blk w base 59 2 g cap cur) (hi : i < n) (hnc : n ≤ cap) (hroom : cap < n + 1) (hn : n ≤ 1048576) (hv : w.heap[vb]? = some (.cells news.toArray 59 (0, 0))) (hnl : news.length = 2) (h1n : ∀ u ∈ news, u.oneCell' = true) (h1c : ∀ u ∈ cur.take (n * 2), u.oneCell' = true) :
    Calls Try.prog 49 #[.slice (some ⟨g, 0, none⟩) n cap, .int .i64 i, .slice (some ⟨vb, 0, none⟩) 1 vc] w fun e w' => ∃ v', e = .returned v' ∧ w'.ownsRow base 59 2 v' (n + 1) (cur.take (i * 2) ++ (news ++ (cur.take (n * 2)).drop (i * 2))) ∧ w.grownBy w' (some g) ∧ ∀ q, v'.ownBlock = some q → (some g = some q) ∨ w.heap.size ≤ q := by
  have hcl := hB.hl
  have hcm := hB.hm
  have hcn : cap = n := by omega
  subst hcn
  obtain ⟨cs, hcs⟩ : ∃ cs, (cur.take (cap * 2)).drop (i * 2) = cs := ⟨_, rfl⟩
  have e2 : (i + 1) * 2 = i * 2 + 2 := by omega
  have e1 : (cap + 1) * 2 = cap * 2 + 2 := by omega
  have e3 : (cap - i) * 2 = cap * 2 - i * 2 := Nat.sub_mul _ _ _
  have hile : i * 2 ≤ cap * 2 := Nat.mul_le_mul_right _ (by omega)
  have hcsl : cs.length = (cap - i) * 2 := by rw [← hcs]; simp only [List.length_drop, List.length_take, hcl]; omega
  obtain ⟨cap2, rest, hrz, hc2, hc2m, hl2⟩ := run_append_zeros (P := Try.prog) (ty := 61) w elPair .i64 Try.underlying3 ⟨g, 0, none⟩ i cap (cap + 1 - i) (cur.take (i * 2)) (by rw [List.length_take, hcl]; omega) (fun j v hj => by
      rw [add_none, Nat.zero_add, hB.cell]
      rw [List.getElem?_take] at hj
      split at hj
      · exact hj
      · cases hj) (by omega) (by omega) (by unfold maxLen; omega) (by omega)
  have him : i + (cap + 1 - i) = cap + 1 := by omega
  rw [him] at hrz hc2
  have hzi : (((cap + 1 - i : Nat)) : Int) = (cap : Int) + 1 - (i : Int) := by omega
  rw [hzi] at hrz
  obtain ⟨W0, hW0⟩ : ∃ W0, w.drew.alloc (.cells (cur.take (i * 2) ++ rest).toArray 59) = W0 := ⟨_, rfl⟩
  rw [hW0] at hrz
  have hlt2 : (cur.take (i * 2)).length = i * 2 := by rw [List.length_take, hcl]; omega
  have hB2 : Blk W0 base 59 2 w.heap.size cap2 (cur.take (i * 2) ++ rest) := ⟨hbw, by rw [← hW0]; exact heap_alloc_new _ _, hc2m, hl2⟩
  have hg0 : w.grownBy W0 none := by rw [← hW0]; exact (World.grownBy.refl w none).trans ⟨rfl, rfl, rfl, (World.grownBy_alloc w.drew _ none).size, (World.grownBy_alloc w.drew _ none).block⟩
  have hm2 := Nat.mul_le_mul_right 2 hc2
  have hv0 : W0.heap[vb]? = some (.cells news.toArray 59 (0, 0)) := (hg0.block vb (Array.getElem?_eq_some_iff.1 hv).1 (by simp)).trans hv
  have hmin2 : Nat.min 1 (cap + 1 - i) = 1 := by simp only [Nat.min_def]; split <;> omega
  obtain ⟨W1, hW1⟩ : ∃ W1, W0.setCells w.heap.size (i * 2) news = W1 := ⟨_, rfl⟩
  have hs1 := hB2.setCells (vs := news) (i * 2) (by rw [hl2, hnl]; omega)
  rw [hW1] at hs1
  have hcp1 : ∀ ty dc, (Builtin.copy_ #[61, 61] ty #[.slice (some ⟨w.heap.size, (i) * 2, none⟩) (cap + 1 - i) dc, .slice (some ⟨vb, 0, none⟩) 1 vc]).run Try.prog W0 = .ok (goInt 1) W1 := fun ty dc => by
    have h := run_copyB (P := Try.prog) (t' := 61) (ty := ty) W0 elPair w.heap.size (i * 2) (cap + 1 - i) dc ⟨vb, 0, none⟩ 1 vc news (by rw [hmin2, hnl]) (fun j v hj => by
        rw [add_none, Nat.zero_add]
        simp [World.cell?, hv0, hj])
      (fun j hj => by rw [hB2.cell, List.getElem?_eq_getElem (by rw [hl2]; omega)]; rfl) (fun j _ => hB2.frozen _) h1n
    rw [hmin2, hW1] at h
    simpa using h
  have hgg : g < w.heap.size := hB.lt
  have hBg : Blk W1.drew base 59 2 g cap cur := ⟨hB.hb, by
    show W1.heap[g]? = _
    rw [hs1.2.block g (Nat.lt_of_lt_of_le hgg hg0.size) (by simp; omega), hg0.block g hgg (by simp)]
    exact hB.hp, hB.hm, hB.hl⟩
  have hB3 : Blk W1.drew base 59 2 w.heap.size cap2 _ := ⟨hs1.1.hb, hs1.1.hp, hs1.1.hm, hs1.1.hl⟩
  obtain ⟨W2, hW2⟩ : ∃ W2, W1.drew.setCells w.heap.size ((i + 1) * 2) cs = W2 := ⟨_, rfl⟩
  have hs2 := hB3.setCells (vs := cs) ((i + 1) * 2) (by rw [hs1.1.hl, hcsl]; omega)
  rw [hW2] at hs2
  have hmin : Nat.min (cap - i) (cap - i) = cap - i := Nat.min_self _
  have hcp2 : Hid (∀ ty dc sc, (Builtin.copy_ #[61, 61] ty #[.slice (some ⟨w.heap.size, (i + 1) * 2, none⟩) (cap - i) dc, .slice (some ⟨g, (i) * 2, none⟩) (cap - i) sc]).run Try.prog W1.drew = .ok (goInt ((cap - i : Nat) : Int)) W2) := Lib.hid (fun ty dc sc => by
    have h := run_copyB (P := Try.prog) (t' := 61) (ty := ty) W1.drew elPair w.heap.size ((i + 1) * 2) (cap - i) dc ⟨g, i * 2, none⟩ (cap - i) sc cs (by rw [hcsl, hmin]) (fun j v hj => by
        rw [add_none, hBg.cell]
        rw [← hcs, List.getElem?_drop, List.getElem?_take] at hj
        split at hj
        · exact hj
        · cases hj)
      (fun j hj => by rw [hB3.cell, List.getElem?_eq_getElem (by rw [hB3.hl]; omega)]; rfl) (fun j _ => hB3.frozen _) (fun v hv => h1c v (by rw [← hcs] at hv; exact List.mem_of_mem_drop hv))
    rw [hmin, hW2] at h
    simpa using h)
  have hfin : W2.ownsRow base 59 2 (.slice (some ⟨w.heap.size, 0, none⟩) (cap + 1) cap2) (cap + 1) (cur.take (i * 2) ++ (news ++ cs)) := by
    have := hs2.1.own hc2
    have e6 : (cap + 1) * 2 = (i + 1) * 2 + cs.length := by rw [hcsl]; omega
    have e7 : (i + 1) * 2 = i * 2 + news.length := by rw [hnl]; omega
    rw [two_set hlt2 e7.symm e6.symm] at this
    exact this
  have hgr : w.grownBy W2 (some g) := by
    have h1 : w.grownBy W1.drew none := grown_new hg0 (⟨hs1.2.os, hs1.2.tape, hs1.2.output, hs1.2.size, hs1.2.block⟩ : W0.grownBy W1.drew (some w.heap.size)) (Nat.le_refl _)
    have h2 := grown_new h1 hs2.2 (Nat.le_refl _)
    exact ⟨h2.os, h2.tape, h2.output, h2.size, fun j hj _ => h2.block j hj (by simp)⟩
  have hw1 : IntKind.i64.wrap ((i : Int) + 1) = (i : Int) + 1 := IntWalk.i64_in _ (by omega)
  have hw2 : IntKind.i64.wrap ((cap : Int) + 1) = (cap : Int) + 1 := IntWalk.i64_in _ (by omega)
  have hw3 : IntKind.i64.wrap ((cap : Int) + 1 - (i : Int)) = (cap : Int) + 1 - (i : Int) := IntWalk.i64_in _ (by omega)
  have hb2 : ¬ (cap2 = i + 1) := by omega
  have hb4 : ¬ (cap2 = i) := by omega
  have hb5 : ¬ (cap = i) := by omega
  have hcd1 : (0 : Int) ≤ (i : Int) + 1 ∧ i ≤ cap := by omega
  have hcd2 : (i : Int) ≤ (cap : Int) + 1 := by omega
  have hcd3 : i ≤ cap := by omega
  rw [hcs]
  clear hs1 hs2 hW0 hW1 hW2 hv hv0 hB hB2 hB3 hBg hcs hcsl e1 e2 e3 hile hm2 hcl h1c h1n hl2 hlt2 hg0 hzi him hmin hmin2 hgg
  go_enter Try.func49, Try.ntmps49
  go_wp2_with (first | simp only [hcp1] | (at_builtin; refine wpList_appR _ rfl (.tmp 34) (.tmp 39) 61 3 rfl _ _ rfl rfl hrz ?_))
  refine wp_region_held_drew (S := (fun _ => True)) (by kernel_rfl) (by trivial) (fun hHeld => ?_)
  refine wpAnyH_take (i := 0) (oi := ?oi1) (v := ?v1) ?hi1 (by kernel_rfl) (by kernel_rfl) (by kernel_rfl) ?hQ1 ?hy1 (by assumption) ?_
  case hi1 => (simp only [List.getElem?_toArray, List.getElem?_cons_succ, List.getElem?_cons_zero]; try rfl)
  case hQ1 => exact fun _ _ _ h => h
  case hy1 => (refine Or.inl ⟨by rfl, ?_⟩; intro wq hSw; (try dsimp only at hSw); go_simp; (try rw [if_pos hcd1]); (try rw [if_pos hcd2]); (try rw [if_pos hcd3]); (try with_reducible rfl))
  (try simp only [Act.put, List.setIfInBounds_toArray, List.set_cons_zero, List.set_cons_succ])
  refine wpAnyH_take (i := 1) (oi := ?oi2) (v := ?v2) ?hi2 (by kernel_rfl) (by kernel_rfl) (by kernel_rfl) ?hQ2 ?hy2 (by assumption) ?_
  case hi2 => (simp only [List.getElem?_toArray, List.getElem?_cons_succ, List.getElem?_cons_zero]; try rfl)
  case hQ2 => exact fun _ _ _ h => h
  case hy2 => (refine Or.inl ⟨by rfl, ?_⟩; intro wq hSw; (try dsimp only at hSw); go_simp; (try rw [if_pos hcd1]); (try rw [if_pos hcd2]); (try rw [if_pos hcd3]); (try with_reducible rfl))
  (try simp only [Act.put, List.setIfInBounds_toArray, List.set_cons_zero, List.set_cons_succ])
  refine wpAnyH_take (i := 2) (oi := ?oi3) (v := ?v3) ?hi3 (by kernel_rfl) (by kernel_rfl) (by kernel_rfl) ?hQ3 ?hy3 (by assumption) ?_
  case hi3 => (simp only [List.getElem?_toArray, List.getElem?_cons_succ, List.getElem?_cons_zero]; try rfl)
  case hQ3 => exact fun _ _ _ h => h
  case hy3 => (refine Or.inl ⟨by rfl, ?_⟩; intro wq hSw; (try dsimp only at hSw); go_simp; (try rw [if_pos hcd1]); (try rw [if_pos hcd2]); (try rw [if_pos hcd3]); (try with_reducible rfl))
  (try simp only [Act.put, List.setIfInBounds_toArray, List.set_cons_zero, List.set_cons_succ])
  refine wpAnyH_take (i := 3) (oi := ?oi4) (v := ?v4) ?hi4 (by kernel_rfl) (by kernel_rfl) (by kernel_rfl) ?hQ4 ?hy4 (by assumption) ?_
  case hi4 => (simp only [List.getElem?_toArray, List.getElem?_cons_succ, List.getElem?_cons_zero]; try rfl)
  case hQ4 => exact fun _ _ _ h => h
  case hy4 => (refine Or.inl ⟨by rfl, ?_⟩; intro wq hSw; (try dsimp only at hSw); go_simp; (try rw [if_pos hcd1]); (try rw [if_pos hcd2]); (try rw [if_pos hcd3]); (try with_reducible rfl))
  (try simp only [Act.put, List.setIfInBounds_toArray, List.set_cons_zero, List.set_cons_succ])
  refine wpAnyH_take (i := 4) (oi := ?oi5) (v := ?v5) ?hi5 (by kernel_rfl) (by kernel_rfl) (by kernel_rfl) ?hQ5 ?hy5 (by assumption) ?_
  case hi5 => (simp only [List.getElem?_toArray, List.getElem?_cons_succ, List.getElem?_cons_zero]; try rfl)
  case hQ5 => exact fun _ _ _ h => h
  case hy5 => (refine Or.inl ⟨by rfl, ?_⟩; intro wq hSw; (try dsimp only at hSw); go_simp; (try rw [if_pos hcd1]); (try rw [if_pos hcd2]); (try rw [if_pos hcd3]); (try with_reducible rfl))
  (try simp only [Act.put, List.setIfInBounds_toArray, List.set_cons_zero, List.set_cons_succ])
  refine wpAnyH_take (i := 5) (oi := ?oi6) (v := ?v6) ?hi6 (by kernel_rfl) (by kernel_rfl) (by kernel_rfl) ?hQ6 ?hy6 (by assumption) ?_
  case hi6 => (simp only [List.getElem?_toArray, List.getElem?_cons_succ, List.getElem?_cons_zero]; try rfl)
  case hQ6 => exact fun _ _ _ h => h
  case hy6 => (refine Or.inl ⟨by rfl, ?_⟩; intro wq hSw; (try dsimp only at hSw); go_simp; (try rw [if_pos hcd1]); (try rw [if_pos hcd2]); (try rw [if_pos hcd3]); (try with_reducible rfl))
  (try simp only [Act.put, List.setIfInBounds_toArray, List.set_cons_zero, List.set_cons_succ])
  refine wpAnyH_take (i := 6) (oi := ?oi7) (v := ?v7) ?hi7 (by kernel_rfl) (by kernel_rfl) (by kernel_rfl) ?hQ7 ?hy7 (by assumption) ?_
  case hi7 => (simp only [List.getElem?_toArray, List.getElem?_cons_succ, List.getElem?_cons_zero]; try rfl)
  case hQ7 => exact fun _ _ _ h => h
  case hy7 => (refine Or.inl ⟨by rfl, ?_⟩; intro wq hSw; (try dsimp only at hSw); go_simp; (try rw [if_pos hcd1]); (try rw [if_pos hcd2]); (try rw [if_pos hcd3]); (try with_reducible rfl))
  (try simp only [Act.put, List.setIfInBounds_toArray, List.set_cons_zero, List.set_cons_succ])
  refine wpAnyH_take (i := 7) (oi := ?oi8) (v := ?v8) ?hi8 (by kernel_rfl) (by kernel_rfl) (by kernel_rfl) ?hQ8 ?hy8 (by assumption) ?_
  case hi8 => (simp only [List.getElem?_toArray, List.getElem?_cons_succ, List.getElem?_cons_zero]; try rfl)
  case hQ8 => exact fun _ _ _ h => h
  case hy8 => (refine Or.inl ⟨by rfl, ?_⟩; intro wq hSw; (try dsimp only at hSw); go_simp; (try rw [if_pos hcd1]); (try rw [if_pos hcd2]); (try rw [if_pos hcd3]); (try with_reducible rfl))
  (try simp only [Act.put, List.setIfInBounds_toArray, List.set_cons_zero, List.set_cons_succ])
  refine wpAnyH_ready (rs := [8]) (by kernel_rfl) (by simp) ?_
  refine AllReadyH.cons (o := ?oi9) ?hi9 ?ti9 AllReadyH.nil
  case hi9 => (simp only [List.getElem?_toArray, List.getElem?_cons_succ, List.getElem?_cons_zero]; try rfl)
  case ti9 =>
    intro KQ hKQ
    refine step_copyR _ (by rfl) (.tmp 50) (.tmp 53) 61 61 (by rfl) _ _ (by rfl) (by rfl) (hcp2.out _ _ _) ?_
    refine hKQ.out _ _ (by trivial) (fun hHeld2 => ?_)
    clear hHeld hKQ KQ; have hHeld := hHeld2; clear hHeld2
    (try simp only [Act.put, List.setIfInBounds_toArray, List.set_cons_zero, List.set_cons_succ])
    refine wpAnyH_done (by kernel_rfl) ?_ _
    go_wp2
    go_ret
    exact ⟨_, rfl, hfin, hgr, fun q hq => .inr (by simp [Value.ownBlock] at hq; omega)⟩


set_option maxRecDepth 100000 in
set_option maxHeartbeats 8000000 in
/-- slices.Insert of one element, on an owned row -/
theorem insP_any (base n i vb vc : Nat) (v : Value) (xs news : List Value) (w : World) (hbw : base ≤ w.heap.size) (ho : w.ownsRow base 59 2 v n xs) (hi : i ≤ n) (hn : n ≤ 1048576) (hvn : v.ownBlock ≠ some vb) (hv : w.heap[vb]? = some (.cells news.toArray 59 (0, 0))) (hnl : news.length = 2) (h1n : ∀ u ∈ news, u.oneCell' = true) (h1c : ∀ u ∈ xs, u.oneCell' = true) :
    Calls Try.prog 49 #[v, .int .i64 i, .slice (some ⟨vb, 0, none⟩) 1 vc] w fun e w' => ∃ v', e = .returned v' ∧ w'.ownsRow base 59 2 v' (n + 1) (xs.take (i * 2) ++ (news ++ xs.drop (i * 2))) ∧ w.grownBy w' v.ownBlock ∧ ∀ q, v'.ownBlock = some q → v.ownBlock = some q ∨ w.heap.size ≤ q := by
  have hRn : Rd w 2 (some ⟨vb, 0, none⟩) 1 news := ⟨by rw [hnl], fun _ => ⟨vb, 0, rfl, (Array.getElem?_eq_some_iff.1 hv).1, fun j u hu => by simp [World.cell?, hv, hu]⟩⟩
  have hxl := ho.1
  by_cases hin : i = n
  · subst hin
    have e1 : xs.take (i * 2) = xs := List.take_of_length_le (by omega)
    have e2 : xs.drop (i * 2) = [] := List.drop_eq_nil_of_le (by omega)
    rw [e1, e2, List.append_nil]
    have hwr : IntKind.i64.wrap (i : Int) = (i : Int) := IntWalk.i64_in _ (by omega)
    have ho' := ho
    rcases own_forms ho with ⟨rfl, rfl, rfl⟩ | ⟨g, cap, cur, rfl, hB, hnc, htk⟩
    · clear ho hxl hv
      go_enter Try.func49, Try.ntmps49
      go_wp2_with (at_builtin; refine wpList_app3 _ rfl (.tmp 23) (.tmp 24) rfl elPair base hbw (.slice none 0 0) 0 [] rfl ho' (some ⟨vb, 0, none⟩) 1 vc news rfl hRn h1n (by unfold maxLen; omega) (by omega) ?_; intro v' w' h2 h3 h4)
      go_ret
      exact ⟨_, rfl, h2, h3, h4⟩
    · have hci : i ≤ cap := hnc
      clear ho hxl hv hB htk e1 e2
      by_cases hc0 : cap = i
      all_goals go_enter Try.func49, Try.ntmps49
      all_goals go_wp2_with (at_builtin; refine wpList_app3 _ rfl (.tmp 23) (.tmp 24) rfl elPair base hbw (.slice (some ⟨g, 0, none⟩) i cap) i xs rfl ho' (some ⟨vb, 0, none⟩) 1 vc news rfl hRn h1n (by unfold maxLen; omega) (by omega) ?_; intro v' w' h2 h3 h4)
      all_goals go_ret
      all_goals exact ⟨_, rfl, h2, h3, h4⟩
  · rcases own_forms ho with ⟨rfl, rfl, rfl⟩ | ⟨g, cap, cur, rfl, hB, hnc, htk⟩
    · omega
    · subst htk
      have hile : i * 2 ≤ n * 2 := Nat.mul_le_mul_right _ hi
      by_cases hroom : n + 1 ≤ cap
      · refine Calls.mono (insSP_any base g cap n i vb vc cur news w hB (by omega) hroom hn (fun e => hvn (by rw [e]; rfl)) hv hnl h1n h1c) ?_
        rintro e w' ⟨rfl, hB', hg⟩
        refine ⟨_, rfl, ?_, hg, fun q hq => .inl hq⟩
        have := hB'.own hroom
        have hcl := hB.hl
        have hm1 := Nat.mul_le_mul_right 2 hroom
        have hl : (cur.take (i * 2) ++ (news ++ (cur.take (n * 2)).drop (i * 2))).length = (n + 1) * 2 := by simp only [List.length_append, List.length_take, List.length_drop, hnl, hcl]; omega
        rw [← List.append_assoc news, ← List.append_assoc (cur.take (i * 2)), ← hl, List.take_left] at this
        rw [List.take_take, Nat.min_eq_left hile]
        exact this
      · refine Calls.mono (insGP_any base g cap n i vb vc cur news w hbw hB (by omega) hnc (by omega) hn hv hnl h1n h1c) ?_
        rintro e w' ⟨v', rfl, h2, h3, h4⟩
        refine ⟨v', rfl, ?_, h3, h4⟩
        rw [List.take_take, Nat.min_eq_left hile]
        exact h2
set_option maxRecDepth 100000 in
set_option maxHeartbeats 8000000 in
/-- slices.Delete of one element, on an owned row -/
theorem delP_any (base g cap n i : Nat) (xs : List Value) (w : World) (ho : w.ownsRow base 59 2 (.slice (some ⟨g, 0, none⟩) n cap) n xs) (hi : i < n) (hn : n ≤ 1048576) (h1c : ∀ u ∈ xs, u.oneCell' = true) :
    Calls Try.prog 53 #[.slice (some ⟨g, 0, none⟩) n cap, .int .i64 i, .int .i64 ((i : Int) + 1)] w fun e w' => e = .returned (.slice (some ⟨g, 0, none⟩) (n - 1) cap) ∧ w'.ownsRow base 59 2 (.slice (some ⟨g, 0, none⟩) (n - 1) cap) (n - 1) (xs.take (i * 2) ++ xs.drop ((i + 1) * 2)) ∧ w.grownBy w' (some g) := by
  obtain ⟨cur, hB, hnc, rfl⟩ := own_blk ho
  have hcl := hB.hl
  have hcm := hB.hm
  have hm1 := Nat.mul_le_mul_right 2 hnc
  have hile : (i + 1) * 2 ≤ n * 2 := Nat.mul_le_mul_right _ (by omega)
  have e2 : (i + 1) * 2 = i * 2 + 2 := by omega
  have e3 : (n - 1) * 2 = n * 2 - 2 := by omega
  have e4 : (n - (i + 1)) * 2 = n * 2 - (i + 1) * 2 := Nat.sub_mul _ _ _
  obtain ⟨cs, hcs⟩ : ∃ cs, (cur.take (n * 2)).drop ((i + 1) * 2) = cs := ⟨_, rfl⟩
  have hcsl : cs.length = (n - (i + 1)) * 2 := by rw [← hcs]; simp only [List.length_drop, List.length_take, hcl]; omega
  have h1s : ∀ u ∈ cs, u.oneCell' = true := fun u hu => h1c u (by rw [← hcs] at hu; exact List.mem_of_mem_drop hu)
  have hown0 : w.drew.ownsRow base 59 2 (.slice (some ⟨g, 0, none⟩) i cap) i (cur.take (i * 2)) := hB.own (by omega)
  obtain ⟨ti, hti, hz, hts, htb⟩ := elPair.hi
  have him : i + (n - (i + 1)) = n - 1 := by omega
  have src : ∀ ad : Addr, (∀ j u, cs[j]? = some u → w.drew.cell? (ad.add j) = some u) → ∃ W1, (∀ ty sc, (Builtin.append_ #[61, 61] ty #[.slice (some ⟨g, 0, none⟩) i cap, .slice (some ad) (n - (i + 1)) sc]).run Try.prog w.drew = .ok (.slice (some ⟨g, 0, none⟩) (n - 1) cap) W1) ∧ W1.ownsRow base 59 2 (.slice (some ⟨g, 0, none⟩) (n - 1) cap) (n - 1) (cur.take (i * 2) ++ cs) ∧ w.drew.grownBy W1 (some g) := fun ad had => by
    have h := fun ty sc => run_append_own_spare (P := Try.prog) w.drew base 61 ty 59 ti 2 elPair.ht hti hts g i cap _ hown0 ad (n - (i + 1)) sc cs hcsl had h1s (by omega)
    obtain ⟨W1, r1, r2, r3⟩ := h 0 0
    rw [him] at r1 r2
    refine ⟨W1, fun ty sc => ?_, r2, r3⟩
    obtain ⟨W2, q1, q2, q3⟩ := h ty sc
    rw [him] at q1
    have : (Builtin.append_ #[61, 61] ty #[.slice (some ⟨g, 0, none⟩) i cap, .slice (some ad) (n - (i + 1)) sc]).run Try.prog w.drew = (Builtin.append_ #[61, 61] 0 #[.slice (some ⟨g, 0, none⟩) i cap, .slice (some ad) (n - (i + 1)) 0]).run Try.prog w.drew := rfl
    rw [this, r1]
  have hB0 : Blk w.drew base 59 2 g cap cur := ⟨hB.hb, hB.hp, hB.hm, hB.hl⟩
  have hdd1 : (i : Int) + 1 ≤ (n : Int) := by omega
  have hdd3 : (0 : Int) ≤ (i : Int) + 1 := by omega
  have hdd2 : (i : Int) ≤ (cap : Int) := by omega
  obtain ⟨ad, hA, had⟩ : ∃ ad : Addr, (if cap = i + 1 then (some ⟨g, 0, none⟩ : Option Addr) else some ⟨g, (i + 1) * 2, none⟩) = some ad ∧ ∀ j u, cs[j]? = some u → w.drew.cell? (ad.add j) = some u := by
    by_cases hc : cap = i + 1
    · refine ⟨⟨g, 0, none⟩, by rw [if_pos hc], fun j u hu => ?_⟩
      have hni : n = i + 1 := by omega
      have h0 : cs = [] := List.eq_nil_of_length_eq_zero (by rw [hcsl, hni, Nat.sub_self, Nat.zero_mul])
      rw [h0] at hu; simp at hu
    · refine ⟨⟨g, (i + 1) * 2, none⟩, by rw [if_neg hc], fun j u hu => ?_⟩
      rw [add_none, hB0.cell]
      rw [← hcs, List.getElem?_drop, List.getElem?_take] at hu
      split at hu
      · simpa using hu
      · cases hu
  obtain ⟨W1, hap0, hW1o, hW1g⟩ := src ad had
  have hap : Hid (∀ ty sc, (Builtin.append_ #[61, 61] ty #[.slice (some ⟨g, 0, none⟩) i cap, .slice (if cap = i + 1 then some ⟨g, 0, none⟩ else some ⟨g, (i + 1) * 2, none⟩) (n - (i + 1)) sc]).run Try.prog w.drew = .ok (.slice (some ⟨g, 0, none⟩) (n - 1) cap) W1) := Lib.hid (fun ty sc => by rw [hA]; exact hap0 ty sc)
  obtain ⟨cur1, hB1, _, htk⟩ := own_blk hW1o
  have hl1 := hB1.hl
  obtain ⟨W2, hW2⟩ : ∃ W2, W1.setCells g ((n - 1) * 2) (Builtin.zeroCells (Value.cells (.agg #[.slice none 0 0, .int .i64 0])) 1).toList = W2 := ⟨_, rfl⟩
  have hzl : (Builtin.zeroCells (Value.cells (.agg #[.slice none 0 0, .int .i64 0])) 1).toList.length = 2 := by simp [Builtin.zeroCells, elPair.hzs]
  have hs2 := hB1.setCells (vs := (Builtin.zeroCells (Value.cells (.agg #[.slice none 0 0, .int .i64 0])) 1).toList) ((n - 1) * 2) (by rw [hl1, hzl]; omega)
  rw [hW2] at hs2
  have hn1 : n - (n - 1) = 1 := by omega
  have hcl2 : Hid (∀ ty c, (Builtin.clear_ #[61] ty #[.slice (some ⟨g, (n - 1) * 2, none⟩) 1 c]).run Try.prog W1 = .ok (.tuple #[]) W2) := Lib.hid (fun ty c => by
    have h := run_clearB (P := Try.prog) (ty := ty) W1 elPair (Try.zeroValue59) (by intro v hv; simp [Value.cells] at hv; first | (rcases hv with rfl | rfl <;> rfl) | (subst hv; rfl)) g ((n - 1) * 2) 1 c (by omega) (fun j hj => by rw [hB1.cell, List.getElem?_eq_getElem (by rw [hl1]; omega)]; rfl) (fun j _ => hB1.frozen _)
    rw [hW2] at h
    simpa using h)
  have hfin : W2.ownsRow base 59 2 (.slice (some ⟨g, 0, none⟩) (n - 1) cap) (n - 1) ((cur.take (n * 2)).take (i * 2) ++ (cur.take (n * 2)).drop ((i + 1) * 2)) := by
    have := hs2.1.own (n := n - 1) (by omega)
    rw [List.take_append_of_le_length (by rw [List.length_take, hl1]; omega), List.take_take, Nat.min_self, htk] at this
    rw [hcs, List.take_take, Nat.min_eq_left (by omega)]
    exact this
  have hgr : w.grownBy W2 (some g) := World.grownBy.trans ⟨hW1g.os, hW1g.tape, hW1g.output, hW1g.size, hW1g.block⟩ hs2.2
  have hb2 : ¬ (cap = i) := by omega
  have hw1 : IntKind.i64.wrap ((i : Int) + 1) = (i : Int) + 1 := IntWalk.i64_in _ (by omega)
  have hneq : ((i : Int) == (i : Int) + 1) = false := by simp; omega
  clear hs2 hW2 hB hB0 hB1 hW1o hW1g hap0 had hA src hown0 hcs hcsl htk hl1 hcl ho h1c h1s e2 e3 e4 hile hm1 hzl hti hz hts htb him
  go_enter Try.func53, Try.ntmps53
  go_wp2_with fail
  refine wp_region_held_drew (S := (fun _ => True)) (by kernel_rfl) (by trivial) (fun hHeld => ?_)
  refine wpAnyH_take (i := 0) (oi := ?oi1) (v := ?v1) ?hi1 (by kernel_rfl) (by kernel_rfl) (by kernel_rfl) ?hQ1 ?hy1 (by assumption) ?_
  case hi1 => (simp only [List.getElem?_toArray, List.getElem?_cons_succ, List.getElem?_cons_zero]; try rfl)
  case hQ1 => exact fun _ _ _ h => h
  case hy1 => (refine Or.inl ⟨by rfl, ?_⟩; intro wq hSw; (try dsimp only at hSw); go_simp; (try rw [if_pos hdd1]); (try rw [if_pos hdd2]); (try with_reducible rfl))
  (try simp only [Act.put, List.setIfInBounds_toArray, List.set_cons_zero, List.set_cons_succ])
  refine wpAnyH_take (i := 1) (oi := ?oi2) (v := ?v2) ?hi2 (by kernel_rfl) (by kernel_rfl) (by kernel_rfl) ?hQ2 ?hy2 (by assumption) ?_
  case hi2 => (simp only [List.getElem?_toArray, List.getElem?_cons_succ, List.getElem?_cons_zero]; try rfl)
  case hQ2 => exact fun _ _ _ h => h
  case hy2 => (refine Or.inl ⟨by rfl, ?_⟩; intro wq hSw; (try dsimp only at hSw); go_simp; (try rw [if_pos hdd1]); (try rw [if_pos hdd2]); (try with_reducible rfl))
  (try simp only [Act.put, List.setIfInBounds_toArray, List.set_cons_zero, List.set_cons_succ])
  refine wpAnyH_take (i := 2) (oi := ?oi3) (v := ?v3) ?hi3 (by kernel_rfl) (by kernel_rfl) (by kernel_rfl) ?hQ3 ?hy3 (by assumption) ?_
  case hi3 => (simp only [List.getElem?_toArray, List.getElem?_cons_succ, List.getElem?_cons_zero]; try rfl)
  case hQ3 => exact fun _ _ _ h => h
  case hy3 => (refine Or.inl ⟨by rfl, ?_⟩; intro wq hSw; (try dsimp only at hSw); go_simp; (try rw [if_pos hdd1]); (try rw [if_pos hdd2]); (try with_reducible rfl))
  (try simp only [Act.put, List.setIfInBounds_toArray, List.set_cons_zero, List.set_cons_succ])
  refine wpAnyH_take (i := 3) (oi := ?oi4) (v := ?v4) ?hi4 (by kernel_rfl) (by kernel_rfl) (by kernel_rfl) ?hQ4 ?hy4 (by assumption) ?_
  case hi4 => (simp only [List.getElem?_toArray, List.getElem?_cons_succ, List.getElem?_cons_zero]; try rfl)
  case hQ4 => exact fun _ _ _ h => h
  case hy4 => (refine Or.inl ⟨by rfl, ?_⟩; intro wq hSw; (try dsimp only at hSw); go_simp; (try rw [if_pos hdd1]); (try rw [if_pos hdd2]); (try with_reducible rfl))
  (try simp only [Act.put, List.setIfInBounds_toArray, List.set_cons_zero, List.set_cons_succ])
  refine wpAnyH_take (i := 4) (oi := ?oi5) (v := ?v5) ?hi5 (by kernel_rfl) (by kernel_rfl) (by kernel_rfl) ?hQ5 ?hy5 (by assumption) ?_
  case hi5 => (simp only [List.getElem?_toArray, List.getElem?_cons_succ, List.getElem?_cons_zero]; try rfl)
  case hQ5 => exact fun _ _ _ h => h
  case hy5 => (refine Or.inl ⟨by rfl, ?_⟩; intro wq hSw; (try dsimp only at hSw); go_simp; (try rw [if_pos hdd1]); (try rw [if_pos hdd2]); (try with_reducible rfl))
  (try simp only [Act.put, List.setIfInBounds_toArray, List.set_cons_zero, List.set_cons_succ])
  refine wpAnyH_take (i := 5) (oi := ?oi6) (v := ?v6) ?hi6 (by kernel_rfl) (by kernel_rfl) (by kernel_rfl) ?hQ6 ?hy6 (by assumption) ?_
  case hi6 => (simp only [List.getElem?_toArray, List.getElem?_cons_succ, List.getElem?_cons_zero]; try rfl)
  case hQ6 => exact fun _ _ _ h => h
  case hy6 => (refine Or.inl ⟨by rfl, ?_⟩; intro wq hSw; (try dsimp only at hSw); go_simp; (try rw [if_pos hdd1]); (try rw [if_pos hdd2]); (try with_reducible rfl))
  (try simp only [Act.put, List.setIfInBounds_toArray, List.set_cons_zero, List.set_cons_succ])
  refine wpAnyH_ready (rs := [6]) (by kernel_rfl) (by simp) ?_
  refine AllReadyH.cons (o := ?oi7) ?hi7 ?ti7 AllReadyH.nil
  case hi7 => (simp only [List.getElem?_toArray, List.getElem?_cons_succ, List.getElem?_cons_zero]; try rfl)
  case ti7 =>
    intro KQ hKQ
    refine step_appR _ (by rfl) (.tmp 22) (.tmp 25) 61 61 (by rfl) _ _ (by rfl) (by rfl) (hap.out _ _) ?_
    refine hKQ.out _ _ (by trivial) (fun hHeld2 => ?_)
    clear hHeld hKQ KQ; have hHeld := hHeld2; clear hHeld2
    (try simp only [Act.put, List.setIfInBounds_toArray, List.set_cons_zero, List.set_cons_succ])
    refine wpAnyH_take (i := 7) (oi := ?oi8) (v := ?v8) ?hi8 (by kernel_rfl) (by kernel_rfl) (by kernel_rfl) ?hQ8 ?hy8 (by assumption) ?_
    case hi8 => (simp only [List.getElem?_toArray, List.getElem?_cons_succ, List.getElem?_cons_zero]; try rfl)
    case hQ8 => exact fun _ _ _ h => h
    case hy8 => (refine Or.inl ⟨by rfl, ?_⟩; intro wq hSw; (try dsimp only at hSw); go_simp; (try rw [if_pos hdd1]); (try rw [if_pos hdd2]); (try with_reducible rfl))
    (try simp only [Act.put, List.setIfInBounds_toArray, List.set_cons_zero, List.set_cons_succ])
    refine wpAnyH_done (by kernel_rfl) ?_ _
    go_wp2_with (simp only [hcl2.out])
    all_goals go_ret
    all_goals exact ⟨rfl, by first | exact hfin | simpa using hfin | (have hcc : cap = i + 1 := (by assumption); rw [hcc] at hfin; simpa using hfin), hgr⟩


set_option maxRecDepth 100000 in
set_option maxHeartbeats 8000000 in
theorem insGQ_any (base g cap n i vb vc : Nat) (cur news : List Value) (w : World) (hbw : base ≤ w.heap.size) (hB : Blk w base 52 1 g cap cur) (hi : i < n) (hnc : n ≤ cap) (hroom : cap < n + 1) (hn : n ≤ 1048576) (hv : w.heap[vb]? = some (.cells news.toArray 52 (0, 0))) (hnl : news.length = 1) (h1n : ∀ u ∈ news, u.oneCell' = true) (h1c : ∀ u ∈ cur.take (n * 1), u.oneCell' = true) :
    Calls Try.prog 50 #[.slice (some ⟨g, 0, none⟩) n cap, .int .i64 i, .slice (some ⟨vb, 0, none⟩) 1 vc] w fun e w' => ∃ v', e = .returned v' ∧ w'.ownsRow base 52 1 v' (n + 1) (cur.take (i * 1) ++ (news ++ (cur.take (n * 1)).drop (i * 1))) ∧ w.grownBy w' (some g) ∧ ∀ q, v'.ownBlock = some q → (some g = some q) ∨ w.heap.size ≤ q := by
  have hcl := hB.hl
  have hcm := hB.hm
  have hcn : cap = n := by omega
  subst hcn
  obtain ⟨cs, hcs⟩ : ∃ cs, (cur.take (cap * 1)).drop (i * 1) = cs := ⟨_, rfl⟩
  have e2 : (i + 1) * 1 = i * 1 + 1 := by omega
  have e1 : (cap + 1) * 1 = cap * 1 + 1 := by omega
  have e3 : (cap - i) * 1 = cap * 1 - i * 1 := Nat.sub_mul _ _ _
  have hile : i * 1 ≤ cap * 1 := Nat.mul_le_mul_right _ (by omega)
  have hcsl : cs.length = (cap - i) * 1 := by rw [← hcs]; simp only [List.length_drop, List.length_take, hcl]; omega
  obtain ⟨cap2, rest, hrz, hc2, hc2m, hl2⟩ := run_append_zeros (P := Try.prog) (ty := 62) w elPtr .i64 Try.underlying3 ⟨g, 0, none⟩ i cap (cap + 1 - i) (cur.take (i * 1)) (by rw [List.length_take, hcl]; omega) (fun j v hj => by
      rw [add_none, Nat.zero_add, hB.cell]
      rw [List.getElem?_take] at hj
      split at hj
      · exact hj
      · cases hj) (by omega) (by omega) (by unfold maxLen; omega) (by omega)
  have him : i + (cap + 1 - i) = cap + 1 := by omega
  rw [him] at hrz hc2
  have hzi : (((cap + 1 - i : Nat)) : Int) = (cap : Int) + 1 - (i : Int) := by omega
  rw [hzi] at hrz
  obtain ⟨W0, hW0⟩ : ∃ W0, w.drew.alloc (.cells (cur.take (i * 1) ++ rest).toArray 52) = W0 := ⟨_, rfl⟩
  rw [hW0] at hrz
  have hlt2 : (cur.take (i * 1)).length = i * 1 := by rw [List.length_take, hcl]; omega
  have hB2 : Blk W0 base 52 1 w.heap.size cap2 (cur.take (i * 1) ++ rest) := ⟨hbw, by rw [← hW0]; exact heap_alloc_new _ _, hc2m, hl2⟩
  have hg0 : w.grownBy W0 none := by rw [← hW0]; exact (World.grownBy.refl w none).trans ⟨rfl, rfl, rfl, (World.grownBy_alloc w.drew _ none).size, (World.grownBy_alloc w.drew _ none).block⟩
  have hm2 := Nat.mul_le_mul_right 1 hc2
  have hv0 : W0.heap[vb]? = some (.cells news.toArray 52 (0, 0)) := (hg0.block vb (Array.getElem?_eq_some_iff.1 hv).1 (by simp)).trans hv
  have hmin2 : Nat.min 1 (cap + 1 - i) = 1 := by simp only [Nat.min_def]; split <;> omega
  obtain ⟨W1, hW1⟩ : ∃ W1, W0.setCells w.heap.size (i * 1) news = W1 := ⟨_, rfl⟩
  have hs1 := hB2.setCells (vs := news) (i * 1) (by rw [hl2, hnl]; omega)
  rw [hW1] at hs1
  have hcp1 : ∀ ty dc, (Builtin.copy_ #[62, 62] ty #[.slice (some ⟨w.heap.size, i, none⟩) (cap + 1 - i) dc, .slice (some ⟨vb, 0, none⟩) 1 vc]).run Try.prog W0 = .ok (goInt 1) W1 := fun ty dc => by
    have h := run_copyB (P := Try.prog) (t' := 62) (ty := ty) W0 elPtr w.heap.size (i * 1) (cap + 1 - i) dc ⟨vb, 0, none⟩ 1 vc news (by rw [hmin2, hnl]) (fun j v hj => by
        rw [add_none, Nat.zero_add]
        simp [World.cell?, hv0, hj])
      (fun j hj => by rw [hB2.cell, List.getElem?_eq_getElem (by rw [hl2]; omega)]; rfl) (fun j _ => hB2.frozen _) h1n
    rw [hmin2, hW1] at h
    simpa using h
  have hgg : g < w.heap.size := hB.lt
  have hBg : Blk W1.drew base 52 1 g cap cur := ⟨hB.hb, by
    show W1.heap[g]? = _
    rw [hs1.2.block g (Nat.lt_of_lt_of_le hgg hg0.size) (by simp; omega), hg0.block g hgg (by simp)]
    exact hB.hp, hB.hm, hB.hl⟩
  have hB3 : Blk W1.drew base 52 1 w.heap.size cap2 _ := ⟨hs1.1.hb, hs1.1.hp, hs1.1.hm, hs1.1.hl⟩
  obtain ⟨W2, hW2⟩ : ∃ W2, W1.drew.setCells w.heap.size ((i + 1) * 1) cs = W2 := ⟨_, rfl⟩
  have hs2 := hB3.setCells (vs := cs) ((i + 1) * 1) (by rw [hs1.1.hl, hcsl]; omega)
  rw [hW2] at hs2
  have hmin : Nat.min (cap - i) (cap - i) = cap - i := Nat.min_self _
  have hcp2 : Hid (∀ ty dc sc, (Builtin.copy_ #[62, 62] ty #[.slice (some ⟨w.heap.size, i + 1, none⟩) (cap - i) dc, .slice (some ⟨g, i, none⟩) (cap - i) sc]).run Try.prog W1.drew = .ok (goInt ((cap - i : Nat) : Int)) W2) := Lib.hid (fun ty dc sc => by
    have h := run_copyB (P := Try.prog) (t' := 62) (ty := ty) W1.drew elPtr w.heap.size ((i + 1) * 1) (cap - i) dc ⟨g, i * 1, none⟩ (cap - i) sc cs (by rw [hcsl, hmin]) (fun j v hj => by
        rw [add_none, hBg.cell]
        rw [← hcs, List.getElem?_drop, List.getElem?_take] at hj
        split at hj
        · exact hj
        · cases hj)
      (fun j hj => by rw [hB3.cell, List.getElem?_eq_getElem (by rw [hB3.hl]; omega)]; rfl) (fun j _ => hB3.frozen _) (fun v hv => h1c v (by rw [← hcs] at hv; exact List.mem_of_mem_drop hv))
    rw [hmin, hW2] at h
    simpa using h)
  have hfin : W2.ownsRow base 52 1 (.slice (some ⟨w.heap.size, 0, none⟩) (cap + 1) cap2) (cap + 1) (cur.take (i * 1) ++ (news ++ cs)) := by
    have := hs2.1.own hc2
    have e6 : (cap + 1) * 1 = (i + 1) * 1 + cs.length := by rw [hcsl]; omega
    have e7 : (i + 1) * 1 = i * 1 + news.length := by rw [hnl]; omega
    rw [two_set hlt2 e7.symm e6.symm] at this
    exact this
  have hgr : w.grownBy W2 (some g) := by
    have h1 : w.grownBy W1.drew none := grown_new hg0 (⟨hs1.2.os, hs1.2.tape, hs1.2.output, hs1.2.size, hs1.2.block⟩ : W0.grownBy W1.drew (some w.heap.size)) (Nat.le_refl _)
    have h2 := grown_new h1 hs2.2 (Nat.le_refl _)
    exact ⟨h2.os, h2.tape, h2.output, h2.size, fun j hj _ => h2.block j hj (by simp)⟩
  have hw1 : IntKind.i64.wrap ((i : Int) + 1) = (i : Int) + 1 := IntWalk.i64_in _ (by omega)
  have hw2 : IntKind.i64.wrap ((cap : Int) + 1) = (cap : Int) + 1 := IntWalk.i64_in _ (by omega)
  have hw3 : IntKind.i64.wrap ((cap : Int) + 1 - (i : Int)) = (cap : Int) + 1 - (i : Int) := IntWalk.i64_in _ (by omega)
  have hb2 : ¬ (cap2 = i + 1) := by omega
  have hb4 : ¬ (cap2 = i) := by omega
  have hb5 : ¬ (cap = i) := by omega
  have hcd1 : (0 : Int) ≤ (i : Int) + 1 ∧ i ≤ cap := by omega
  have hcd2 : (i : Int) ≤ (cap : Int) + 1 := by omega
  have hcd3 : i ≤ cap := by omega
  rw [hcs]
  clear hs1 hs2 hW0 hW1 hW2 hv hv0 hB hB2 hB3 hBg hcs hcsl e1 e2 e3 hile hm2 hcl h1c h1n hl2 hlt2 hg0 hzi him hmin hmin2 hgg
  go_enter Try.func50, Try.ntmps50
  go_wp2_with (first | simp only [hcp1] | (at_builtin; refine wpList_appR _ rfl (.tmp 34) (.tmp 39) 62 3 rfl _ _ rfl rfl hrz ?_))
  refine wp_region_held_drew (S := (fun _ => True)) (by kernel_rfl) (by trivial) (fun hHeld => ?_)
  refine wpAnyH_take (i := 0) (oi := ?oi1) (v := ?v1) ?hi1 (by kernel_rfl) (by kernel_rfl) (by kernel_rfl) ?hQ1 ?hy1 (by assumption) ?_
  case hi1 => (simp only [List.getElem?_toArray, List.getElem?_cons_succ, List.getElem?_cons_zero]; try rfl)
  case hQ1 => exact fun _ _ _ h => h
  case hy1 => (refine Or.inl ⟨by rfl, ?_⟩; intro wq hSw; (try dsimp only at hSw); go_simp; (try rw [if_pos hcd1]); (try rw [if_pos hcd2]); (try rw [if_pos hcd3]); (try with_reducible rfl))
  (try simp only [Act.put, List.setIfInBounds_toArray, List.set_cons_zero, List.set_cons_succ])
  refine wpAnyH_take (i := 1) (oi := ?oi2) (v := ?v2) ?hi2 (by kernel_rfl) (by kernel_rfl) (by kernel_rfl) ?hQ2 ?hy2 (by assumption) ?_
  case hi2 => (simp only [List.getElem?_toArray, List.getElem?_cons_succ, List.getElem?_cons_zero]; try rfl)
  case hQ2 => exact fun _ _ _ h => h
  case hy2 => (refine Or.inl ⟨by rfl, ?_⟩; intro wq hSw; (try dsimp only at hSw); go_simp; (try rw [if_pos hcd1]); (try rw [if_pos hcd2]); (try rw [if_pos hcd3]); (try with_reducible rfl))
  (try simp only [Act.put, List.setIfInBounds_toArray, List.set_cons_zero, List.set_cons_succ])
  refine wpAnyH_take (i := 2) (oi := ?oi3) (v := ?v3) ?hi3 (by kernel_rfl) (by kernel_rfl) (by kernel_rfl) ?hQ3 ?hy3 (by assumption) ?_
  case hi3 => (simp only [List.getElem?_toArray, List.getElem?_cons_succ, List.getElem?_cons_zero]; try rfl)
  case hQ3 => exact fun _ _ _ h => h
  case hy3 => (refine Or.inl ⟨by rfl, ?_⟩; intro wq hSw; (try dsimp only at hSw); go_simp; (try rw [if_pos hcd1]); (try rw [if_pos hcd2]); (try rw [if_pos hcd3]); (try with_reducible rfl))
  (try simp only [Act.put, List.setIfInBounds_toArray, List.set_cons_zero, List.set_cons_succ])
  refine wpAnyH_take (i := 3) (oi := ?oi4) (v := ?v4) ?hi4 (by kernel_rfl) (by kernel_rfl) (by kernel_rfl) ?hQ4 ?hy4 (by assumption) ?_
  case hi4 => (simp only [List.getElem?_toArray, List.getElem?_cons_succ, List.getElem?_cons_zero]; try rfl)
  case hQ4 => exact fun _ _ _ h => h
  case hy4 => (refine Or.inl ⟨by rfl, ?_⟩; intro wq hSw; (try dsimp only at hSw); go_simp; (try rw [if_pos hcd1]); (try rw [if_pos hcd2]); (try rw [if_pos hcd3]); (try with_reducible rfl))
  (try simp only [Act.put, List.setIfInBounds_toArray, List.set_cons_zero, List.set_cons_succ])
  refine wpAnyH_take (i := 4) (oi := ?oi5) (v := ?v5) ?hi5 (by kernel_rfl) (by kernel_rfl) (by kernel_rfl) ?hQ5 ?hy5 (by assumption) ?_
  case hi5 => (simp only [List.getElem?_toArray, List.getElem?_cons_succ, List.getElem?_cons_zero]; try rfl)
  case hQ5 => exact fun _ _ _ h => h
  case hy5 => (refine Or.inl ⟨by rfl, ?_⟩; intro wq hSw; (try dsimp only at hSw); go_simp; (try rw [if_pos hcd1]); (try rw [if_pos hcd2]); (try rw [if_pos hcd3]); (try with_reducible rfl))
  (try simp only [Act.put, List.setIfInBounds_toArray, List.set_cons_zero, List.set_cons_succ])
  refine wpAnyH_take (i := 5) (oi := ?oi6) (v := ?v6) ?hi6 (by kernel_rfl) (by kernel_rfl) (by kernel_rfl) ?hQ6 ?hy6 (by assumption) ?_
  case hi6 => (simp only [List.getElem?_toArray, List.getElem?_cons_succ, List.getElem?_cons_zero]; try rfl)
  case hQ6 => exact fun _ _ _ h => h
  case hy6 => (refine Or.inl ⟨by rfl, ?_⟩; intro wq hSw; (try dsimp only at hSw); go_simp; (try rw [if_pos hcd1]); (try rw [if_pos hcd2]); (try rw [if_pos hcd3]); (try with_reducible rfl))
  (try simp only [Act.put, List.setIfInBounds_toArray, List.set_cons_zero, List.set_cons_succ])
  refine wpAnyH_take (i := 6) (oi := ?oi7) (v := ?v7) ?hi7 (by kernel_rfl) (by kernel_rfl) (by kernel_rfl) ?hQ7 ?hy7 (by assumption) ?_
  case hi7 => (simp only [List.getElem?_toArray, List.getElem?_cons_succ, List.getElem?_cons_zero]; try rfl)
  case hQ7 => exact fun _ _ _ h => h
  case hy7 => (refine Or.inl ⟨by rfl, ?_⟩; intro wq hSw; (try dsimp only at hSw); go_simp; (try rw [if_pos hcd1]); (try rw [if_pos hcd2]); (try rw [if_pos hcd3]); (try with_reducible rfl))
  (try simp only [Act.put, List.setIfInBounds_toArray, List.set_cons_zero, List.set_cons_succ])
  refine wpAnyH_take (i := 7) (oi := ?oi8) (v := ?v8) ?hi8 (by kernel_rfl) (by kernel_rfl) (by kernel_rfl) ?hQ8 ?hy8 (by assumption) ?_
  case hi8 => (simp only [List.getElem?_toArray, List.getElem?_cons_succ, List.getElem?_cons_zero]; try rfl)
  case hQ8 => exact fun _ _ _ h => h
  case hy8 => (refine Or.inl ⟨by rfl, ?_⟩; intro wq hSw; (try dsimp only at hSw); go_simp; (try rw [if_pos hcd1]); (try rw [if_pos hcd2]); (try rw [if_pos hcd3]); (try with_reducible rfl))
  (try simp only [Act.put, List.setIfInBounds_toArray, List.set_cons_zero, List.set_cons_succ])
  refine wpAnyH_ready (rs := [8]) (by kernel_rfl) (by simp) ?_
  refine AllReadyH.cons (o := ?oi9) ?hi9 ?ti9 AllReadyH.nil
  case hi9 => (simp only [List.getElem?_toArray, List.getElem?_cons_succ, List.getElem?_cons_zero]; try rfl)
  case ti9 =>
    intro KQ hKQ
    refine step_copyR _ (by rfl) (.tmp 50) (.tmp 53) 62 62 (by rfl) _ _ (by rfl) (by rfl) (hcp2.out _ _ _) ?_
    refine hKQ.out _ _ (by trivial) (fun hHeld2 => ?_)
    clear hHeld hKQ KQ; have hHeld := hHeld2; clear hHeld2
    (try simp only [Act.put, List.setIfInBounds_toArray, List.set_cons_zero, List.set_cons_succ])
    refine wpAnyH_done (by kernel_rfl) ?_ _
    go_wp2
    go_ret
    exact ⟨_, rfl, hfin, hgr, fun q hq => .inr (by simp [Value.ownBlock] at hq; omega)⟩


set_option maxRecDepth 100000 in
set_option maxHeartbeats 8000000 in
/-- slices.Insert of one element, on an owned row -/
theorem insQ_any (base n i vb vc : Nat) (v : Value) (xs news : List Value) (w : World) (hbw : base ≤ w.heap.size) (ho : w.ownsRow base 52 1 v n xs) (hi : i ≤ n) (hn : n ≤ 1048576) (hvn : v.ownBlock ≠ some vb) (hv : w.heap[vb]? = some (.cells news.toArray 52 (0, 0))) (hnl : news.length = 1) (h1n : ∀ u ∈ news, u.oneCell' = true) (h1c : ∀ u ∈ xs, u.oneCell' = true) :
    Calls Try.prog 50 #[v, .int .i64 i, .slice (some ⟨vb, 0, none⟩) 1 vc] w fun e w' => ∃ v', e = .returned v' ∧ w'.ownsRow base 52 1 v' (n + 1) (xs.take (i * 1) ++ (news ++ xs.drop (i * 1))) ∧ w.grownBy w' v.ownBlock ∧ ∀ q, v'.ownBlock = some q → v.ownBlock = some q ∨ w.heap.size ≤ q := by
  have hRn : Rd w 1 (some ⟨vb, 0, none⟩) 1 news := ⟨by rw [hnl], fun _ => ⟨vb, 0, rfl, (Array.getElem?_eq_some_iff.1 hv).1, fun j u hu => by simp [World.cell?, hv, hu]⟩⟩
  have hxl := ho.1
  by_cases hin : i = n
  · subst hin
    have e1 : xs.take (i * 1) = xs := List.take_of_length_le (by omega)
    have e2 : xs.drop (i * 1) = [] := List.drop_eq_nil_of_le (by omega)
    rw [e1, e2, List.append_nil]
    have hwr : IntKind.i64.wrap (i : Int) = (i : Int) := IntWalk.i64_in _ (by omega)
    have ho' := ho
    rcases own_forms ho with ⟨rfl, rfl, rfl⟩ | ⟨g, cap, cur, rfl, hB, hnc, htk⟩
    · clear ho hxl hv
      go_enter Try.func50, Try.ntmps50
      go_wp2_with (at_builtin; refine wpList_app3 _ rfl (.tmp 23) (.tmp 24) rfl elPtr base hbw (.slice none 0 0) 0 [] rfl ho' (some ⟨vb, 0, none⟩) 1 vc news rfl hRn h1n (by unfold maxLen; omega) (by omega) ?_; intro v' w' h2 h3 h4)
      go_ret
      exact ⟨_, rfl, h2, h3, h4⟩
    · have hci : i ≤ cap := hnc
      clear ho hxl hv hB htk e1 e2
      by_cases hc0 : cap = i
      all_goals go_enter Try.func50, Try.ntmps50
      all_goals go_wp2_with (at_builtin; refine wpList_app3 _ rfl (.tmp 23) (.tmp 24) rfl elPtr base hbw (.slice (some ⟨g, 0, none⟩) i cap) i xs rfl ho' (some ⟨vb, 0, none⟩) 1 vc news rfl hRn h1n (by unfold maxLen; omega) (by omega) ?_; intro v' w' h2 h3 h4)
      all_goals go_ret
      all_goals exact ⟨_, rfl, h2, h3, h4⟩
  · rcases own_forms ho with ⟨rfl, rfl, rfl⟩ | ⟨g, cap, cur, rfl, hB, hnc, htk⟩
    · omega
    · subst htk
      have hile : i * 1 ≤ n * 1 := Nat.mul_le_mul_right _ hi
      by_cases hroom : n + 1 ≤ cap
      · refine Calls.mono (insSQ_any base g cap n i vb vc cur news w hB (by omega) hroom hn (fun e => hvn (by rw [e]; rfl)) hv hnl h1n h1c) ?_
        rintro e w' ⟨rfl, hB', hg⟩
        refine ⟨_, rfl, ?_, hg, fun q hq => .inl hq⟩
        have := hB'.own hroom
        have hcl := hB.hl
        have hm1 := Nat.mul_le_mul_right 1 hroom
        have hl : (cur.take (i * 1) ++ (news ++ (cur.take (n * 1)).drop (i * 1))).length = (n + 1) * 1 := by simp only [List.length_append, List.length_take, List.length_drop, hnl, hcl]; omega
        rw [← List.append_assoc news, ← List.append_assoc (cur.take (i * 1)), ← hl, List.take_left] at this
        rw [List.take_take, Nat.min_eq_left hile]
        exact this
      · refine Calls.mono (insGQ_any base g cap n i vb vc cur news w hbw hB (by omega) hnc (by omega) hn hv hnl h1n h1c) ?_
        rintro e w' ⟨v', rfl, h2, h3, h4⟩
        refine ⟨v', rfl, ?_, h3, h4⟩
        rw [List.take_take, Nat.min_eq_left hile]
        exact h2
set_option maxRecDepth 100000 in
set_option maxHeartbeats 8000000 in
/-- slices.Delete of one element, on an owned row -/
theorem delQ_any (base g cap n i : Nat) (xs : List Value) (w : World) (ho : w.ownsRow base 52 1 (.slice (some ⟨g, 0, none⟩) n cap) n xs) (hi : i < n) (hn : n ≤ 1048576) (h1c : ∀ u ∈ xs, u.oneCell' = true) :
    Calls Try.prog 75 #[.slice (some ⟨g, 0, none⟩) n cap, .int .i64 i, .int .i64 ((i : Int) + 1)] w fun e w' => e = .returned (.slice (some ⟨g, 0, none⟩) (n - 1) cap) ∧ w'.ownsRow base 52 1 (.slice (some ⟨g, 0, none⟩) (n - 1) cap) (n - 1) (xs.take (i * 1) ++ xs.drop ((i + 1) * 1)) ∧ w.grownBy w' (some g) := by
  obtain ⟨cur, hB, hnc, rfl⟩ := own_blk ho
  have hcl := hB.hl
  have hcm := hB.hm
  have hm1 := Nat.mul_le_mul_right 1 hnc
  have hile : (i + 1) * 1 ≤ n * 1 := Nat.mul_le_mul_right _ (by omega)
  have e2 : (i + 1) * 1 = i * 1 + 1 := by omega
  have e3 : (n - 1) * 1 = n * 1 - 1 := by omega
  have e4 : (n - (i + 1)) * 1 = n * 1 - (i + 1) * 1 := Nat.sub_mul _ _ _
  obtain ⟨cs, hcs⟩ : ∃ cs, (cur.take (n * 1)).drop ((i + 1) * 1) = cs := ⟨_, rfl⟩
  have hcsl : cs.length = (n - (i + 1)) * 1 := by rw [← hcs]; simp only [List.length_drop, List.length_take, hcl]; omega
  have h1s : ∀ u ∈ cs, u.oneCell' = true := fun u hu => h1c u (by rw [← hcs] at hu; exact List.mem_of_mem_drop hu)
  have hown0 : w.drew.ownsRow base 52 1 (.slice (some ⟨g, 0, none⟩) i cap) i (cur.take (i * 1)) := hB.own (by omega)
  obtain ⟨ti, hti, hz, hts, htb⟩ := elPtr.hi
  have him : i + (n - (i + 1)) = n - 1 := by omega
  have src : ∀ ad : Addr, (∀ j u, cs[j]? = some u → w.drew.cell? (ad.add j) = some u) → ∃ W1, (∀ ty sc, (Builtin.append_ #[62, 62] ty #[.slice (some ⟨g, 0, none⟩) i cap, .slice (some ad) (n - (i + 1)) sc]).run Try.prog w.drew = .ok (.slice (some ⟨g, 0, none⟩) (n - 1) cap) W1) ∧ W1.ownsRow base 52 1 (.slice (some ⟨g, 0, none⟩) (n - 1) cap) (n - 1) (cur.take (i * 1) ++ cs) ∧ w.drew.grownBy W1 (some g) := fun ad had => by
    have h := fun ty sc => run_append_own_spare (P := Try.prog) w.drew base 62 ty 52 ti 1 elPtr.ht hti hts g i cap _ hown0 ad (n - (i + 1)) sc cs hcsl had h1s (by omega)
    obtain ⟨W1, r1, r2, r3⟩ := h 0 0
    rw [him] at r1 r2
    refine ⟨W1, fun ty sc => ?_, r2, r3⟩
    obtain ⟨W2, q1, q2, q3⟩ := h ty sc
    rw [him] at q1
    have : (Builtin.append_ #[62, 62] ty #[.slice (some ⟨g, 0, none⟩) i cap, .slice (some ad) (n - (i + 1)) sc]).run Try.prog w.drew = (Builtin.append_ #[62, 62] 0 #[.slice (some ⟨g, 0, none⟩) i cap, .slice (some ad) (n - (i + 1)) 0]).run Try.prog w.drew := rfl
    rw [this, r1]
  have hB0 : Blk w.drew base 52 1 g cap cur := ⟨hB.hb, hB.hp, hB.hm, hB.hl⟩
  have hdd1 : (i : Int) + 1 ≤ (n : Int) := by omega
  have hdd3 : (0 : Int) ≤ (i : Int) + 1 := by omega
  have hdd2 : (i : Int) ≤ (cap : Int) := by omega
  obtain ⟨ad, hA, had⟩ : ∃ ad : Addr, (if cap = i + 1 then (some ⟨g, 0, none⟩ : Option Addr) else some ⟨g, i + 1, none⟩) = some ad ∧ ∀ j u, cs[j]? = some u → w.drew.cell? (ad.add j) = some u := by
    by_cases hc : cap = i + 1
    · refine ⟨⟨g, 0, none⟩, by rw [if_pos hc], fun j u hu => ?_⟩
      have hni : n = i + 1 := by omega
      have h0 : cs = [] := List.eq_nil_of_length_eq_zero (by rw [hcsl, hni, Nat.sub_self, Nat.zero_mul])
      rw [h0] at hu; simp at hu
    · refine ⟨⟨g, i + 1, none⟩, by rw [if_neg hc], fun j u hu => ?_⟩
      rw [add_none, hB0.cell]
      rw [← hcs, List.getElem?_drop, List.getElem?_take] at hu
      split at hu
      · simpa using hu
      · cases hu
  obtain ⟨W1, hap0, hW1o, hW1g⟩ := src ad had
  have hap : Hid (∀ ty sc, (Builtin.append_ #[62, 62] ty #[.slice (some ⟨g, 0, none⟩) i cap, .slice (if cap = i + 1 then some ⟨g, 0, none⟩ else some ⟨g, i + 1, none⟩) (n - (i + 1)) sc]).run Try.prog w.drew = .ok (.slice (some ⟨g, 0, none⟩) (n - 1) cap) W1) := Lib.hid (fun ty sc => by rw [hA]; exact hap0 ty sc)
  obtain ⟨cur1, hB1, _, htk⟩ := own_blk hW1o
  have hl1 := hB1.hl
  obtain ⟨W2, hW2⟩ : ∃ W2, W1.setCells g ((n - 1) * 1) (Builtin.zeroCells (Value.cells (.pointer none)) 1).toList = W2 := ⟨_, rfl⟩
  have hzl : (Builtin.zeroCells (Value.cells (.pointer none)) 1).toList.length = 1 := by simp [Builtin.zeroCells, elPtr.hzs]
  have hs2 := hB1.setCells (vs := (Builtin.zeroCells (Value.cells (.pointer none)) 1).toList) ((n - 1) * 1) (by rw [hl1, hzl]; omega)
  rw [hW2] at hs2
  have hn1 : n - (n - 1) = 1 := by omega
  have hcl2 : Hid (∀ ty c, (Builtin.clear_ #[62] ty #[.slice (some ⟨g, n - 1, none⟩) 1 c]).run Try.prog W1 = .ok (.tuple #[]) W2) := Lib.hid (fun ty c => by
    have h := run_clearB (P := Try.prog) (ty := ty) W1 elPtr (Try.zeroValue52) (by intro v hv; simp [Value.cells] at hv; first | (rcases hv with rfl | rfl <;> rfl) | (subst hv; rfl)) g ((n - 1) * 1) 1 c (by omega) (fun j hj => by rw [hB1.cell, List.getElem?_eq_getElem (by rw [hl1]; omega)]; rfl) (fun j _ => hB1.frozen _)
    rw [hW2] at h
    simpa using h)
  have hfin : W2.ownsRow base 52 1 (.slice (some ⟨g, 0, none⟩) (n - 1) cap) (n - 1) ((cur.take (n * 1)).take (i * 1) ++ (cur.take (n * 1)).drop ((i + 1) * 1)) := by
    have := hs2.1.own (n := n - 1) (by omega)
    rw [List.take_append_of_le_length (by rw [List.length_take, hl1]; omega), List.take_take, Nat.min_self, htk] at this
    rw [hcs, List.take_take, Nat.min_eq_left (by omega)]
    exact this
  have hgr : w.grownBy W2 (some g) := World.grownBy.trans ⟨hW1g.os, hW1g.tape, hW1g.output, hW1g.size, hW1g.block⟩ hs2.2
  have hb2 : ¬ (cap = i) := by omega
  have hw1 : IntKind.i64.wrap ((i : Int) + 1) = (i : Int) + 1 := IntWalk.i64_in _ (by omega)
  have hneq : ((i : Int) == (i : Int) + 1) = false := by simp; omega
  clear hs2 hW2 hB hB0 hB1 hW1o hW1g hap0 had hA src hown0 hcs hcsl htk hl1 hcl ho h1c h1s e2 e3 e4 hile hm1 hzl hti hz hts htb him
  go_enter Try.func75, Try.ntmps75
  go_wp2_with fail
  refine wp_region_held_drew (S := (fun _ => True)) (by kernel_rfl) (by trivial) (fun hHeld => ?_)
  refine wpAnyH_take (i := 0) (oi := ?oi1) (v := ?v1) ?hi1 (by kernel_rfl) (by kernel_rfl) (by kernel_rfl) ?hQ1 ?hy1 (by assumption) ?_
  case hi1 => (simp only [List.getElem?_toArray, List.getElem?_cons_succ, List.getElem?_cons_zero]; try rfl)
  case hQ1 => exact fun _ _ _ h => h
  case hy1 => (refine Or.inl ⟨by rfl, ?_⟩; intro wq hSw; (try dsimp only at hSw); go_simp; (try rw [if_pos hdd1]); (try rw [if_pos hdd2]); (try with_reducible rfl))
  (try simp only [Act.put, List.setIfInBounds_toArray, List.set_cons_zero, List.set_cons_succ])
  refine wpAnyH_take (i := 1) (oi := ?oi2) (v := ?v2) ?hi2 (by kernel_rfl) (by kernel_rfl) (by kernel_rfl) ?hQ2 ?hy2 (by assumption) ?_
  case hi2 => (simp only [List.getElem?_toArray, List.getElem?_cons_succ, List.getElem?_cons_zero]; try rfl)
  case hQ2 => exact fun _ _ _ h => h
  case hy2 => (refine Or.inl ⟨by rfl, ?_⟩; intro wq hSw; (try dsimp only at hSw); go_simp; (try rw [if_pos hdd1]); (try rw [if_pos hdd2]); (try with_reducible rfl))
  (try simp only [Act.put, List.setIfInBounds_toArray, List.set_cons_zero, List.set_cons_succ])
  refine wpAnyH_take (i := 2) (oi := ?oi3) (v := ?v3) ?hi3 (by kernel_rfl) (by kernel_rfl) (by kernel_rfl) ?hQ3 ?hy3 (by assumption) ?_
  case hi3 => (simp only [List.getElem?_toArray, List.getElem?_cons_succ, List.getElem?_cons_zero]; try rfl)
  case hQ3 => exact fun _ _ _ h => h
  case hy3 => (refine Or.inl ⟨by rfl, ?_⟩; intro wq hSw; (try dsimp only at hSw); go_simp; (try rw [if_pos hdd1]); (try rw [if_pos hdd2]); (try with_reducible rfl))
  (try simp only [Act.put, List.setIfInBounds_toArray, List.set_cons_zero, List.set_cons_succ])
  refine wpAnyH_take (i := 3) (oi := ?oi4) (v := ?v4) ?hi4 (by kernel_rfl) (by kernel_rfl) (by kernel_rfl) ?hQ4 ?hy4 (by assumption) ?_
  case hi4 => (simp only [List.getElem?_toArray, List.getElem?_cons_succ, List.getElem?_cons_zero]; try rfl)
  case hQ4 => exact fun _ _ _ h => h
  case hy4 => (refine Or.inl ⟨by rfl, ?_⟩; intro wq hSw; (try dsimp only at hSw); go_simp; (try rw [if_pos hdd1]); (try rw [if_pos hdd2]); (try with_reducible rfl))
  (try simp only [Act.put, List.setIfInBounds_toArray, List.set_cons_zero, List.set_cons_succ])
  refine wpAnyH_take (i := 4) (oi := ?oi5) (v := ?v5) ?hi5 (by kernel_rfl) (by kernel_rfl) (by kernel_rfl) ?hQ5 ?hy5 (by assumption) ?_
  case hi5 => (simp only [List.getElem?_toArray, List.getElem?_cons_succ, List.getElem?_cons_zero]; try rfl)
  case hQ5 => exact fun _ _ _ h => h
  case hy5 => (refine Or.inl ⟨by rfl, ?_⟩; intro wq hSw; (try dsimp only at hSw); go_simp; (try rw [if_pos hdd1]); (try rw [if_pos hdd2]); (try with_reducible rfl))
  (try simp only [Act.put, List.setIfInBounds_toArray, List.set_cons_zero, List.set_cons_succ])
  refine wpAnyH_take (i := 5) (oi := ?oi6) (v := ?v6) ?hi6 (by kernel_rfl) (by kernel_rfl) (by kernel_rfl) ?hQ6 ?hy6 (by assumption) ?_
  case hi6 => (simp only [List.getElem?_toArray, List.getElem?_cons_succ, List.getElem?_cons_zero]; try rfl)
  case hQ6 => exact fun _ _ _ h => h
  case hy6 => (refine Or.inl ⟨by rfl, ?_⟩; intro wq hSw; (try dsimp only at hSw); go_simp; (try rw [if_pos hdd1]); (try rw [if_pos hdd2]); (try with_reducible rfl))
  (try simp only [Act.put, List.setIfInBounds_toArray, List.set_cons_zero, List.set_cons_succ])
  refine wpAnyH_ready (rs := [6]) (by kernel_rfl) (by simp) ?_
  refine AllReadyH.cons (o := ?oi7) ?hi7 ?ti7 AllReadyH.nil
  case hi7 => (simp only [List.getElem?_toArray, List.getElem?_cons_succ, List.getElem?_cons_zero]; try rfl)
  case ti7 =>
    intro KQ hKQ
    refine step_appR _ (by rfl) (.tmp 22) (.tmp 25) 62 62 (by rfl) _ _ (by rfl) (by rfl) (hap.out _ _) ?_
    refine hKQ.out _ _ (by trivial) (fun hHeld2 => ?_)
    clear hHeld hKQ KQ; have hHeld := hHeld2; clear hHeld2
    (try simp only [Act.put, List.setIfInBounds_toArray, List.set_cons_zero, List.set_cons_succ])
    refine wpAnyH_take (i := 7) (oi := ?oi8) (v := ?v8) ?hi8 (by kernel_rfl) (by kernel_rfl) (by kernel_rfl) ?hQ8 ?hy8 (by assumption) ?_
    case hi8 => (simp only [List.getElem?_toArray, List.getElem?_cons_succ, List.getElem?_cons_zero]; try rfl)
    case hQ8 => exact fun _ _ _ h => h
    case hy8 => (refine Or.inl ⟨by rfl, ?_⟩; intro wq hSw; (try dsimp only at hSw); go_simp; (try rw [if_pos hdd1]); (try rw [if_pos hdd2]); (try with_reducible rfl))
    (try simp only [Act.put, List.setIfInBounds_toArray, List.set_cons_zero, List.set_cons_succ])
    refine wpAnyH_done (by kernel_rfl) ?_ _
    go_wp2_with (simp only [hcl2.out])
    all_goals go_ret
    all_goals exact ⟨rfl, by first | exact hfin | simpa using hfin | (have hcc : cap = i + 1 := (by assumption); rw [hcc] at hfin; simpa using hfin), hgr⟩

end Go.Proofs.Ytdmbgimehepfaaa
