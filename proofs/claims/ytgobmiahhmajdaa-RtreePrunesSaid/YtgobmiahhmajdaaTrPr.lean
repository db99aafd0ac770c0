/- Packed trees: the law RtreePrunes. -/
import Derived.Test.YtgobmiahhmajdaaTrX
import Derived.Test.YtgobmiahhmajdaaTrYp
import Derived.Deep.RegionHeld3
set_option linter.unusedSimpArgs false
set_option linter.unusedVariables false
namespace Go.Proofs.Ytgobmiahhmajdaa
open Go.RowKit


theorem prunes_eq (wd : Int) (L : List Bxs) (q : Rct) : ((bdF (rtE wd L)).2 = true → ovlB (bdF (rtE wd L)).1 q = false → (rsF (loE wd L) q).length = 0 ∧ (exQ q (rtE wd L)).length ≤ 1) ∧ ((rsF (loE wd L) q).length ≠ 0 → rdE wd L ≤ (exQ q (rtE wd L)).length) := by
  rcases rt_cases wd L with ⟨h, h2, h3⟩ | ⟨t, d, h, hd, hg, ha, _⟩
  · rw [h, h2, h3]; simp [bdF]
  · rw [h, hd, ← ha]
    simp only [bdF, exQ]
    constructor
    · intro _ ho
      by_cases hq : rvB q = true
      · rw [if_pos hq, hg.prune hq ho]
        unfold rsF; rw [hg.miss ho]; simp [putsF]
      · rw [if_neg hq]
        unfold rsF; rw [find_none (by simpa using hq)]; simp [putsF]
    · intro hne
      obtain ⟨z, hz⟩ := List.exists_mem_of_ne_nil _ (fun h0 : rsF t.all q = [] => hne (by rw [h0]; rfl))
      rw [rsF, mem_putsF] at hz
      obtain ⟨b, hb, rfl⟩ := List.mem_map.1 hz
      rw [List.mem_filter] at hb
      have hq : rvB q = true := (ovlB_iff.1 hb.2).2.1
      rw [if_pos hq]
      exact hg.deep hb.1 hb.2
set_option maxRecDepth 100000 in
set_option maxHeartbeats 16000000 in
theorem lawPrunes_any (A : Option Addr) (c : Nat) (L : List Bxs) (p : Int) (q : Rct) (w : World) (hR : Rd w 5 A L.length (bxl L)) (hc : L.length ≤ c) (hl : L.length ≤ 9223372036854775807) (hwf : ∀ b ∈ L, (Lit.int .i64 b.2).wf = true) (hp : (Lit.int .u8 p).wf = true) :
    Calls Try.prog 8 #[.slice A L.length c, .int .u8 p, rx q] w fun e w' => e = .returned (.bool true) ∧ Ext w w' := by
  have HN0 := Lib.hid (fun w => bounds_any none none 0 0 w (.inl ⟨rfl, rfl, rfl, rfl⟩))
  have HN1 : Hid (∀ w, Calls Try.prog 17 #[.pointer none, rx q] w (RdP 1 0 (ic []) w)) := Lib.hid (fun w => by have := search_any q none none 0 0 w (.inl ⟨rfl, rfl, rfl, rfl⟩) (by simp [exQ]) (by simp [exQ]); simpa [exQ] using this)
  have HN2 : Hid (∀ w, Calls Try.prog 19 #[.pointer none, rx q] w fun e w' => e = .returned (.int .i64 0) ∧ Ext w w') := Lib.hid (fun w => by have := visits_any q none none 0 0 w (.inl ⟨rfl, rfl, rfl, rfl⟩) (by simp [exQ]); simpa [exQ] using this)
  have HN3 := Lib.hid (fun w => len_any none none 0 0 w (.inl ⟨rfl, rfl, rfl, rfl⟩))
  have HN4 := Lib.hid (fun w => depth_any none none 0 0 w (.inl ⟨rfl, rfl, rfl, rfl⟩))
  have HN5 : Hid (∀ w, Calls Try.prog 21 #[.pointer none, .int .i64 0, .int .i64 0] w (RdP 1 0 (ic []) w)) := Lib.hid (fun w => by have := stab_any 0 0 none none 0 0 w (.inl ⟨rfl, rfl, rfl, rfl⟩) (by simp [exQ]) (by simp [exQ]); have he : stF none 0 0 = [] := (by decide +kernel); rw [he] at this; exact this)
  go_enter Try.func8, Try.ntmps8
  go_wp2_with fail
  refine Calls.mono (HN0.out _) ?_
  rintro e w1 ⟨rfl, hb1⟩
  have hE1 : Ext (w.alloc (.cells #[.int .i64 q.1.1, .int .i64 q.1.2, .int .i64 q.2.1, .int .i64 q.2.2] 31)) w1 := hb1
  have r0 : w1.cell? ⟨w.heap.size, 0, none⟩ = some (.int .i64 q.1.1) := hE1.cell' (by simp [go_sem, ↓IntWalk.iteOmega])
  have r1 : w1.cell? ⟨w.heap.size, 1, none⟩ = some (.int .i64 q.1.2) := hE1.cell' (by simp [go_sem, ↓IntWalk.iteOmega])
  have r2 : w1.cell? ⟨w.heap.size, 2, none⟩ = some (.int .i64 q.2.1) := hE1.cell' (by simp [go_sem, ↓IntWalk.iteOmega])
  have r3 : w1.cell? ⟨w.heap.size, 3, none⟩ = some (.int .i64 q.2.2) := hE1.cell' (by simp [go_sem, ↓IntWalk.iteOmega])
  have hsz : w.heap.size < w1.heap.size := by have := hE1.size; simp at this; omega
  clear hb1
  simp only [bdF]
  go_wp2
  refine wp_region_held_drew (S := (fun w' => w'.cell? ⟨w.heap.size, 0, none⟩ = some (.int .i64 q.1.1) ∧ w'.cell? ⟨w.heap.size, 1, none⟩ = some (.int .i64 q.1.2) ∧ w'.cell? ⟨w.heap.size, 2, none⟩ = some (.int .i64 q.2.1) ∧ w'.cell? ⟨w.heap.size, 3, none⟩ = some (.int .i64 q.2.2))) (by kernel_rfl) (by simp [go_sem, ↓IntWalk.iteOmega, *]) (fun hHeld => ?_)
  refine wpAnyH_take (i := 0) (oi := ?oi1) (v := ?v1) ?hi1 (by kernel_rfl) (by kernel_rfl) (by kernel_rfl) ?hQ1 ?hy1 (by assumption) ?_
  case hi1 => (simp only [List.getElem?_toArray, List.getElem?_cons_succ, List.getElem?_cons_zero]; rfl)
  case hQ1 => exact fun _ _ _ h => h
  case hy1 => (refine Or.inl ⟨by rfl, ?_⟩; intro wq hSw; (try dsimp only at hSw); go_simp; (try with_reducible rfl))
  (try simp only [Act.put, List.setIfInBounds_toArray, List.set_cons_zero, List.set_cons_succ])
  refine wpAnyH_take (i := 1) (oi := ?oi2) (v := ?v2) ?hi2 (by kernel_rfl) (by kernel_rfl) (by kernel_rfl) ?hQ2 ?hy2 (by assumption) ?_
  case hi2 => (simp only [List.getElem?_toArray, List.getElem?_cons_succ, List.getElem?_cons_zero]; rfl)
  case hQ2 => exact fun _ _ _ h => h
  case hy2 => (refine Or.inl ⟨by rfl, ?_⟩; intro wq hSw; (try dsimp only at hSw); go_simp; (try with_reducible rfl))
  (try simp only [Act.put, List.setIfInBounds_toArray, List.set_cons_zero, List.set_cons_succ])
  refine wpAnyH_take (i := 2) (oi := ?oi3) (v := ?v3) ?hi3 (by kernel_rfl) (by kernel_rfl) (by kernel_rfl) ?hQ3 ?hy3 (by assumption) ?_
  case hi3 => (simp only [List.getElem?_toArray, List.getElem?_cons_succ, List.getElem?_cons_zero]; rfl)
  case hQ3 => exact fun _ _ _ h => h
  case hy3 => (refine Or.inl ⟨by rfl, ?_⟩; intro wq hSw; (try dsimp only at hSw); go_simp; (try with_reducible rfl))
  (try simp only [Act.put, List.setIfInBounds_toArray, List.set_cons_zero, List.set_cons_succ])
  refine wpAnyH_take (i := 3) (oi := ?oi4) (v := ?v4) ?hi4 (by kernel_rfl) (by kernel_rfl) (by kernel_rfl) ?hQ4 ?hy4 (by assumption) ?_
  case hi4 => (simp only [List.getElem?_toArray, List.getElem?_cons_succ, List.getElem?_cons_zero]; rfl)
  case hQ4 => exact fun _ _ _ h => h
  case hy4 => (refine Or.inl ⟨by rfl, ?_⟩; intro wq hSw; (try dsimp only at hSw); go_simp; (try with_reducible rfl))
  (try simp only [Act.put, List.setIfInBounds_toArray, List.set_cons_zero, List.set_cons_succ])
  refine wpAnyH_take (i := 6) (oi := ?oi5) (v := ?v5) ?hi5 (by kernel_rfl) (by kernel_rfl) (by kernel_rfl) ?hQ5 ?hy5 (by assumption) ?_
  case hi5 => (simp only [List.getElem?_toArray, List.getElem?_cons_succ, List.getElem?_cons_zero]; rfl)
  case hQ5 => exact fun _ _ _ h => h
  case hy5 => (refine Or.inl ⟨by rfl, ?_⟩; intro wq hSw; (try dsimp only at hSw); go_simp; (try with_reducible rfl))
  (try simp only [Act.put, List.setIfInBounds_toArray, List.set_cons_zero, List.set_cons_succ])
  refine wpAnyH_take (i := 7) (oi := ?oi6) (v := ?v6) ?hi6 (by kernel_rfl) (by kernel_rfl) (by kernel_rfl) ?hQ6 ?hy6 (by assumption) ?_
  case hi6 => (simp only [List.getElem?_toArray, List.getElem?_cons_succ, List.getElem?_cons_zero]; rfl)
  case hQ6 => exact fun _ _ _ h => h
  case hy6 => (refine Or.inl ⟨by rfl, ?_⟩; intro wq hSw; (try dsimp only at hSw); go_simp; (try with_reducible rfl))
  (try simp only [Act.put, List.setIfInBounds_toArray, List.set_cons_zero, List.set_cons_succ])
  refine wpAnyH_take (i := 10) (oi := ?oi7) (v := ?v7) ?hi7 (by kernel_rfl) (by kernel_rfl) (by kernel_rfl) ?hQ7 ?hy7 (by assumption) ?_
  case hi7 => (simp only [List.getElem?_toArray, List.getElem?_cons_succ, List.getElem?_cons_zero]; rfl)
  case hQ7 => exact fun _ _ _ h => h
  case hy7 => (refine Or.inl ⟨by rfl, ?_⟩; intro wq hSw; (try dsimp only at hSw); go_simp; (try with_reducible rfl))
  (try simp only [Act.put, List.setIfInBounds_toArray, List.set_cons_zero, List.set_cons_succ])
  refine wpAnyH_take (i := 13) (oi := ?oi8) (v := ?v8) ?hi8 (by kernel_rfl) (by kernel_rfl) (by kernel_rfl) ?hQ8 ?hy8 (by assumption) ?_
  case hi8 => (simp only [List.getElem?_toArray, List.getElem?_cons_succ, List.getElem?_cons_zero]; rfl)
  case hQ8 => exact fun _ _ _ h => h
  case hy8 => (refine Or.inl ⟨by rfl, ?_⟩; intro wq hSw; (try dsimp only at hSw); go_simp; (try with_reducible rfl))
  (try simp only [Act.put, List.setIfInBounds_toArray, List.set_cons_zero, List.set_cons_succ])
  refine wpAnyH_take (i := 16) (oi := ?oi9) (v := ?v9) ?hi9 (by kernel_rfl) (by kernel_rfl) (by kernel_rfl) ?hQ9 ?hy9 (by assumption) ?_
  case hi9 => (simp only [List.getElem?_toArray, List.getElem?_cons_succ, List.getElem?_cons_zero]; rfl)
  case hQ9 => exact fun _ _ _ h => h
  case hy9 => (refine Or.inl ⟨by rfl, ?_⟩; intro wq hSw; (try dsimp only at hSw); go_simp; (try with_reducible rfl))
  (try simp only [Act.put, List.setIfInBounds_toArray, List.set_cons_zero, List.set_cons_succ])
  refine wpAnyH_ready (rs := [4]) (by kernel_rfl) (by simp) ?_
  refine AllReadyH.cons (o := ?oi10) ?hi10 ?ti10 AllReadyH.nil
  case hi10 => (simp only [List.getElem?_toArray, List.getElem?_cons_succ, List.getElem?_cons_zero]; rfl)
  case ti10 =>
    intro KQ hKQ
    go_simp
    (go_at_call 17; refine (HN1.out _).mono ?_; rintro e w1 ⟨A1, c1, rfl, hb1, hP1⟩; obtain ⟨z, rfl⟩ := hb1.get; clear hb1)
    refine hKQ.out _ _ (by simp [go_sem, ↓IntWalk.iteOmega, *]) (fun hHeld2 => ?_)
    clear hHeld hKQ KQ; have hHeld := hHeld2; clear hHeld2
    (try simp only [Act.put, List.setIfInBounds_toArray, List.set_cons_zero, List.set_cons_succ])
    refine wpAnyH_take (i := 5) (oi := ?oi11) (v := ?v11) ?hi11 (by kernel_rfl) (by kernel_rfl) (by kernel_rfl) ?hQ11 ?hy11 (by assumption) ?_
    case hi11 => (simp only [List.getElem?_toArray, List.getElem?_cons_succ, List.getElem?_cons_zero]; rfl)
    case hQ11 => exact fun _ _ _ h => h
    case hy11 => (refine Or.inl ⟨by rfl, ?_⟩; intro wq hSw; (try dsimp only at hSw); go_simp; (try with_reducible rfl))
    (try simp only [Act.put, List.setIfInBounds_toArray, List.set_cons_zero, List.set_cons_succ])
    refine wpAnyH_ready (rs := [8]) (by kernel_rfl) (by simp) ?_
    refine AllReadyH.cons (o := ?oi12) ?hi12 ?ti12 AllReadyH.nil
    case hi12 => (simp only [List.getElem?_toArray, List.getElem?_cons_succ, List.getElem?_cons_zero]; rfl)
    case ti12 =>
      intro KQ hKQ
      go_simp
      (go_at_call 19; refine (HN2.out _).mono ?_; rintro e w1 ⟨rfl, hb1⟩; obtain ⟨z, rfl⟩ := hb1.get; clear hb1)
      refine hKQ.out _ _ (by simp [go_sem, ↓IntWalk.iteOmega, *]) (fun hHeld2 => ?_)
      clear hHeld hKQ KQ; have hHeld := hHeld2; clear hHeld2
      (try simp only [Act.put, List.setIfInBounds_toArray, List.set_cons_zero, List.set_cons_succ])
      refine wpAnyH_take (i := 9) (oi := ?oi13) (v := ?v13) ?hi13 (by kernel_rfl) (by kernel_rfl) (by kernel_rfl) ?hQ13 ?hy13 (by assumption) ?_
      case hi13 => (simp only [List.getElem?_toArray, List.getElem?_cons_succ, List.getElem?_cons_zero]; rfl)
      case hQ13 => exact fun _ _ _ h => h
      case hy13 => (refine Or.inl ⟨by rfl, ?_⟩; intro wq hSw; (try dsimp only at hSw); go_simp; (try with_reducible rfl))
      (try simp only [Act.put, List.setIfInBounds_toArray, List.set_cons_zero, List.set_cons_succ])
      refine wpAnyH_ready (rs := [11]) (by kernel_rfl) (by simp) ?_
      refine AllReadyH.cons (o := ?oi14) ?hi14 ?ti14 AllReadyH.nil
      case hi14 => (simp only [List.getElem?_toArray, List.getElem?_cons_succ, List.getElem?_cons_zero]; rfl)
      case ti14 =>
        intro KQ hKQ
        go_simp
        (go_at_call 14; refine (HN3.out _).mono ?_; rintro e w1 ⟨rfl, rfl⟩)
        refine hKQ.out _ _ (by simp [go_sem, ↓IntWalk.iteOmega, *]) (fun hHeld2 => ?_)
        clear hHeld hKQ KQ; have hHeld := hHeld2; clear hHeld2
        (try simp only [Act.put, List.setIfInBounds_toArray, List.set_cons_zero, List.set_cons_succ])
        refine wpAnyH_take (i := 12) (oi := ?oi15) (v := ?v15) ?hi15 (by kernel_rfl) (by kernel_rfl) (by kernel_rfl) ?hQ15 ?hy15 (by assumption) ?_
        case hi15 => (simp only [List.getElem?_toArray, List.getElem?_cons_succ, List.getElem?_cons_zero]; rfl)
        case hQ15 => exact fun _ _ _ h => h
        case hy15 => (refine Or.inl ⟨by rfl, ?_⟩; intro wq hSw; (try dsimp only at hSw); go_simp; (try with_reducible rfl))
        (try simp only [Act.put, List.setIfInBounds_toArray, List.set_cons_zero, List.set_cons_succ])
        refine wpAnyH_ready (rs := [14]) (by kernel_rfl) (by simp) ?_
        refine AllReadyH.cons (o := ?oi16) ?hi16 ?ti16 AllReadyH.nil
        case hi16 => (simp only [List.getElem?_toArray, List.getElem?_cons_succ, List.getElem?_cons_zero]; rfl)
        case ti16 =>
          intro KQ hKQ
          go_simp
          (go_at_call 15; refine (HN4.out _).mono ?_; rintro e w1 ⟨rfl, rfl⟩)
          refine hKQ.out _ _ (by simp [go_sem, ↓IntWalk.iteOmega, *]) (fun hHeld2 => ?_)
          clear hHeld hKQ KQ; have hHeld := hHeld2; clear hHeld2
          (try simp only [Act.put, List.setIfInBounds_toArray, List.set_cons_zero, List.set_cons_succ])
          refine wpAnyH_take (i := 15) (oi := ?oi17) (v := ?v17) ?hi17 (by kernel_rfl) (by kernel_rfl) (by kernel_rfl) ?hQ17 ?hy17 (by assumption) ?_
          case hi17 => (simp only [List.getElem?_toArray, List.getElem?_cons_succ, List.getElem?_cons_zero]; rfl)
          case hQ17 => exact fun _ _ _ h => h
          case hy17 => (refine Or.inl ⟨by rfl, ?_⟩; intro wq hSw; (try dsimp only at hSw); go_simp; (try with_reducible rfl))
          (try simp only [Act.put, List.setIfInBounds_toArray, List.set_cons_zero, List.set_cons_succ])
          refine wpAnyH_ready (rs := [17]) (by kernel_rfl) (by simp) ?_
          refine AllReadyH.cons (o := ?oi18) ?hi18 ?ti18 AllReadyH.nil
          case hi18 => (simp only [List.getElem?_toArray, List.getElem?_cons_succ, List.getElem?_cons_zero]; rfl)
          case ti18 =>
            intro KQ hKQ
            go_simp
            (go_at_call 21; refine (HN5.out _).mono ?_; rintro e w1 ⟨A2, c2, rfl, hb1, hP2⟩; obtain ⟨z, rfl⟩ := hb1.get; clear hb1)
            refine hKQ.out _ _ (by simp [go_sem, ↓IntWalk.iteOmega, *]) (fun hHeld2 => ?_)
            clear hHeld hKQ KQ; have hHeld := hHeld2; clear hHeld2
            (try simp only [Act.put, List.setIfInBounds_toArray, List.set_cons_zero, List.set_cons_succ])
            refine wpAnyH_take (i := 18) (oi := ?oi19) (v := ?v19) ?hi19 (by kernel_rfl) (by kernel_rfl) (by kernel_rfl) ?hQ19 ?hy19 (by assumption) ?_
            case hi19 => (simp only [List.getElem?_toArray, List.getElem?_cons_succ, List.getElem?_cons_zero]; rfl)
            case hQ19 => exact fun _ _ _ h => h
            case hy19 => (refine Or.inl ⟨by rfl, ?_⟩; intro wq hSw; (try dsimp only at hSw); go_simp; (try with_reducible rfl))
            (try simp only [Act.put, List.setIfInBounds_toArray, List.set_cons_zero, List.set_cons_succ])
            refine wpAnyH_take (i := 19) (oi := ?oi20) (v := ?v20) ?hi20 (by kernel_rfl) (by kernel_rfl) (by kernel_rfl) ?hQ20 ?hy20 (by assumption) ?_
            case hi20 => (simp only [List.getElem?_toArray, List.getElem?_cons_succ, List.getElem?_cons_zero]; rfl)
            case hQ20 => exact fun _ _ _ h => h
            case hy20 => (refine Or.inl ⟨by rfl, ?_⟩; intro wq hSw; (try dsimp only at hSw); go_simp; (try with_reducible rfl))
            (try simp only [Act.put, List.setIfInBounds_toArray, List.set_cons_zero, List.set_cons_succ])
            refine wpAnyH_take (i := 20) (oi := ?oi21) (v := ?v21) ?hi21 (by kernel_rfl) (by kernel_rfl) (by kernel_rfl) ?hQ21 ?hy21 (by assumption) ?_
            case hi21 => (simp only [List.getElem?_toArray, List.getElem?_cons_succ, List.getElem?_cons_zero]; rfl)
            case hQ21 => exact fun _ _ _ h => h
            case hy21 => (refine Or.inl ⟨by rfl, ?_⟩; intro wq hSw; (try dsimp only at hSw); go_simp; (try with_reducible rfl))
            (try simp only [Act.put, List.setIfInBounds_toArray, List.set_cons_zero, List.set_cons_succ])
            refine wpAnyH_take (i := 21) (oi := ?oi22) (v := ?v22) ?hi22 (by kernel_rfl) (by kernel_rfl) (by kernel_rfl) ?hQ22 ?hy22 (by assumption) ?_
            case hi22 => (simp only [List.getElem?_toArray, List.getElem?_cons_succ, List.getElem?_cons_zero]; rfl)
            case hQ22 => exact fun _ _ _ h => h
            case hy22 => (refine Or.inl ⟨by rfl, ?_⟩; intro wq hSw; (try dsimp only at hSw); go_simp; (try with_reducible rfl))
            (try simp only [Act.put, List.setIfInBounds_toArray, List.set_cons_zero, List.set_cons_succ])
            refine wpAnyH_done (by kernel_rfl) ?_ _
            clear hHeld
            by_cases hbig : 200 < L.length
            · clear hR hwf
              go_wp2_with (go_at_call 9; refine (works_any _).mono ?_; rintro e w1 ⟨rfl, hb1⟩; obtain ⟨z, rfl⟩ := hb1.get; clear hb1)
              go_ret
              exact ⟨rfl, Ext.tr (by repeat (first | exact Ext.refl' _ | assumption | apply Ext.ex' | apply Ext.al | apply Ext.drN | apply Ext.dr)) (hE1.tr (by repeat (first | exact Ext.refl' _ | assumption | apply Ext.ex' | apply Ext.al | apply Ext.drN | apply Ext.dr)))⟩
            have h200 : L.length ≤ 200 := by omega
            obtain ⟨p0, p1, p2, p3⟩ := wd_63 hp
            have HB := Lib.hid (fun w h => buildU A L.length c (2 + p % 63) L w rfl h (by omega) hc hwf)
            have HS1 := Lib.hid (fun a w h => searchU (2 + p % 63) L h200 q a ((loE (2 + p % 63) L).length : Nat) (rdE (2 + p % 63) L : Nat) w h)
            have hnv := (ex_bound (2 + p % 63) L h200 q).1
            have HVi := Lib.hid (fun a w h => visits_any q (rtE (2 + p % 63) L) a ((loE (2 + p % 63) L).length : Nat) (rdE (2 + p % 63) L : Nat) w h (by omega))
            have HBo := Lib.hid (fun a w h => bounds_any (rtE (2 + p % 63) L) a ((loE (2 + p % 63) L).length : Nat) (rdE (2 + p % 63) L : Nat) w h)
            have hz1 := Nat.le_trans (Nat.le_trans (rsF_length (loE (2 + p % 63) L) q) (lo_le (2 + p % 63) L)) h200
            obtain ⟨hP1, hP2⟩ := prunes_eq (2 + p % 63) L q
            generalize rsF (loE (2 + p % 63) L) q = zs at HS1 hz1 hP1 hP2
            generalize (exQ q (rtE (2 + p % 63) L)).length = nv at HVi hnv hP1 hP2
            generalize bdF (rtE (2 + p % 63) L) = bd at HBo hP1
            generalize (loE (2 + p % 63) L).length = n1 at HB HS1 HVi HBo
            generalize rtE (2 + p % 63) L = root1 at HB HS1 HVi HBo
            generalize rdE (2 + p % 63) L = d1 at HB HS1 HVi HBo hP2
            generalize errF (2 + p % 63) L = er1 at HB
            obtain ⟨rc, okb⟩ := bd
            dsimp only at hP1
            have HO := Lib.hid (fun w => roverlapX_any rc q w)
            clear hwf hp
            go_wp2_with fail
            refine Calls.mono (HB.out _ (hR.ext (Ext.tr (by repeat (first | exact Ext.refl' _ | assumption | apply Ext.ex' | apply Ext.al | apply Ext.drN | apply Ext.dr)) (hE1.tr (by repeat (first | exact Ext.refl' _ | assumption | apply Ext.ex' | apply Ext.al | apply Ext.drN | apply Ext.dr)))))) ?_
            rintro e w2 ⟨a, rfl, hb2, hT, hne1, hne2⟩
            have hE2 : Ext (w.alloc (.cells #[.int .i64 q.1.1, .int .i64 q.1.2, .int .i64 q.2.1, .int .i64 q.2.2] 31)) w2 := hE1.tr (Ext.tr (by repeat (first | exact Ext.refl' _ | assumption | apply Ext.ex' | apply Ext.al | apply Ext.drN | apply Ext.dr)) hb2)
            clear hb2 r0 r1 r2 r3 hE1 hsz
            by_cases h1 : er1 = 0
            case neg =>
              have g1 : (er1 != 0) = true := by simp [h1]
              clear hne1 hne2 h1
              go_wp2_with (go_at_call 9; refine (works_any _).mono ?_; rintro e w1 ⟨rfl, hb1⟩; obtain ⟨z, rfl⟩ := hb1.get; clear hb1)
              go_ret
              exact ⟨rfl, Ext.tr (by repeat (first | exact Ext.refl' _ | assumption | apply Ext.ex' | apply Ext.al | apply Ext.drN | apply Ext.dr)) (hE2.tr (by repeat (first | exact Ext.refl' _ | assumption | apply Ext.ex' | apply Ext.al | apply Ext.drN | apply Ext.dr)))⟩
            have g1 : (er1 != 0) = false := by simp [h1]
            clear hne1 hne2 h1
            go_wp2_with fail
            refine Calls.mono (HBo.out _ _ (hT.ext (by repeat (first | exact Ext.refl' _ | assumption | apply Ext.ex' | apply Ext.al | apply Ext.drN | apply Ext.dr)))) ?_
            rintro e w3 ⟨rfl, hb3⟩
            have hE3 : Ext (w.alloc (.cells #[.int .i64 q.1.1, .int .i64 q.1.2, .int .i64 q.2.1, .int .i64 q.2.2] 31)) w3 := hE2.tr (Ext.tr (by repeat (first | exact Ext.refl' _ | assumption | apply Ext.ex' | apply Ext.al | apply Ext.drN | apply Ext.dr)) hb3)
            have hE0 : Ext w w3 := Ext.tr (by repeat (first | exact Ext.refl' _ | assumption | apply Ext.ex' | apply Ext.al | apply Ext.drN | apply Ext.dr)) hE3
            have hT := hT.ext (Ext.tr (by repeat (first | exact Ext.refl' _ | assumption | apply Ext.ex' | apply Ext.al | apply Ext.drN | apply Ext.dr)) hb3)
            have r0 : w3.cell? ⟨w.heap.size, 0, none⟩ = some (.int .i64 q.1.1) := hE3.cell' (by simp [go_sem, ↓IntWalk.iteOmega])
            have r1 : w3.cell? ⟨w.heap.size, 1, none⟩ = some (.int .i64 q.1.2) := hE3.cell' (by simp [go_sem, ↓IntWalk.iteOmega])
            have r2 : w3.cell? ⟨w.heap.size, 2, none⟩ = some (.int .i64 q.2.1) := hE3.cell' (by simp [go_sem, ↓IntWalk.iteOmega])
            have r3 : w3.cell? ⟨w.heap.size, 3, none⟩ = some (.int .i64 q.2.2) := hE3.cell' (by simp [go_sem, ↓IntWalk.iteOmega])
            have hsz : w.heap.size < w3.heap.size := by have := hE3.size; simp at this; omega
            clear hE3 hb3 hE2
            go_wp2
            refine wp_region_held_drew (S := (fun w' => w'.cell? ⟨w.heap.size, 0, none⟩ = some (.int .i64 q.1.1) ∧ w'.cell? ⟨w.heap.size, 1, none⟩ = some (.int .i64 q.1.2) ∧ w'.cell? ⟨w.heap.size, 2, none⟩ = some (.int .i64 q.2.1) ∧ w'.cell? ⟨w.heap.size, 3, none⟩ = some (.int .i64 q.2.2) ∧ w'.cell? ⟨w3.heap.size, 0, none⟩ = some (.int .i64 rc.1.1) ∧ w'.cell? ⟨w3.heap.size, 1, none⟩ = some (.int .i64 rc.1.2) ∧ w'.cell? ⟨w3.heap.size, 2, none⟩ = some (.int .i64 rc.2.1) ∧ w'.cell? ⟨w3.heap.size, 3, none⟩ = some (.int .i64 rc.2.2))) (by kernel_rfl) (by simp [go_sem, ↓IntWalk.iteOmega, *]) (fun hHeld => ?_)
            refine wpAnyH_take (i := 0) (oi := ?oi1001) (v := ?v1001) ?hi1001 (by kernel_rfl) (by kernel_rfl) (by kernel_rfl) ?hQ1001 ?hy1001 (by assumption) ?_
            case hi1001 => (simp only [List.getElem?_toArray, List.getElem?_cons_succ, List.getElem?_cons_zero]; rfl)
            case hQ1001 => exact fun _ _ _ h => h
            case hy1001 => (refine Or.inl ⟨by rfl, ?_⟩; intro wq hSw; (try dsimp only at hSw); go_simp; (try with_reducible rfl))
            (try simp only [Act.put, List.setIfInBounds_toArray, List.set_cons_zero, List.set_cons_succ])
            refine wpAnyH_take (i := 1) (oi := ?oi1002) (v := ?v1002) ?hi1002 (by kernel_rfl) (by kernel_rfl) (by kernel_rfl) ?hQ1002 ?hy1002 (by assumption) ?_
            case hi1002 => (simp only [List.getElem?_toArray, List.getElem?_cons_succ, List.getElem?_cons_zero]; rfl)
            case hQ1002 => exact fun _ _ _ h => h
            case hy1002 => (refine Or.inl ⟨by rfl, ?_⟩; intro wq hSw; (try dsimp only at hSw); go_simp; (try with_reducible rfl))
            (try simp only [Act.put, List.setIfInBounds_toArray, List.set_cons_zero, List.set_cons_succ])
            refine wpAnyH_take (i := 3) (oi := ?oi1003) (v := ?v1003) ?hi1003 (by kernel_rfl) (by kernel_rfl) (by kernel_rfl) ?hQ1003 ?hy1003 (by assumption) ?_
            case hi1003 => (simp only [List.getElem?_toArray, List.getElem?_cons_succ, List.getElem?_cons_zero]; rfl)
            case hQ1003 => exact fun _ _ _ h => h
            case hy1003 => (refine Or.inl ⟨by rfl, ?_⟩; intro wq hSw; (try dsimp only at hSw); go_simp; (try with_reducible rfl))
            (try simp only [Act.put, List.setIfInBounds_toArray, List.set_cons_zero, List.set_cons_succ])
            refine wpAnyH_take (i := 4) (oi := ?oi1004) (v := ?v1004) ?hi1004 (by kernel_rfl) (by kernel_rfl) (by kernel_rfl) ?hQ1004 ?hy1004 (by assumption) ?_
            case hi1004 => (simp only [List.getElem?_toArray, List.getElem?_cons_succ, List.getElem?_cons_zero]; rfl)
            case hQ1004 => exact fun _ _ _ h => h
            case hy1004 => (refine Or.inl ⟨by rfl, ?_⟩; intro wq hSw; (try dsimp only at hSw); go_simp; (try with_reducible rfl))
            (try simp only [Act.put, List.setIfInBounds_toArray, List.set_cons_zero, List.set_cons_succ])
            refine wpAnyH_ready (rs := [2]) (by kernel_rfl) (by simp) ?_
            refine AllReadyH.cons (o := ?oi1005) ?hi1005 ?ti1005 AllReadyH.nil
            case hi1005 => (simp only [List.getElem?_toArray, List.getElem?_cons_succ, List.getElem?_cons_zero]; rfl)
            case ti1005 =>
              intro KQ hKQ
              go_simp
              (go_at_call 17; refine (HS1.out _ _ (hT.ext (by repeat (first | exact Ext.refl' _ | assumption | apply Ext.ex' | apply Ext.al | apply Ext.drN | apply Ext.dr)))).mono ?_; rintro e w1 ⟨A3, c3, rfl, hb1, hP3⟩; obtain ⟨z, rfl⟩ := hb1.get; clear hb1)
              refine hKQ.out _ _ (by simp [go_sem, ↓IntWalk.iteOmega, *]) (fun hHeld2 => ?_)
              clear hHeld hKQ KQ; have hHeld := hHeld2; clear hHeld2
              (try simp only [Act.put, List.setIfInBounds_toArray, List.set_cons_zero, List.set_cons_succ])
              refine wpAnyH_ready (rs := [5]) (by kernel_rfl) (by simp) ?_
              refine AllReadyH.cons (o := ?oi1006) ?hi1006 ?ti1006 AllReadyH.nil
              case hi1006 => (simp only [List.getElem?_toArray, List.getElem?_cons_succ, List.getElem?_cons_zero]; rfl)
              case ti1006 =>
                intro KQ hKQ
                go_simp
                (go_at_call 19; refine (HVi.out _ _ (hT.ext (by repeat (first | exact Ext.refl' _ | assumption | apply Ext.ex' | apply Ext.al | apply Ext.drN | apply Ext.dr)))).mono ?_; rintro e w1 ⟨rfl, hb1⟩; obtain ⟨z, rfl⟩ := hb1.get; clear hb1)
                refine hKQ.out _ _ (by simp [go_sem, ↓IntWalk.iteOmega, *]) (fun hHeld2 => ?_)
                clear hHeld hKQ KQ; have hHeld := hHeld2; clear hHeld2
                (try simp only [Act.put, List.setIfInBounds_toArray, List.set_cons_zero, List.set_cons_succ])
                refine wpAnyH_take (i := 6) (oi := ?oi1007) (v := ?v1007) ?hi1007 (by kernel_rfl) (by kernel_rfl) (by kernel_rfl) ?hQ1007 ?hy1007 (by assumption) ?_
                case hi1007 => (simp only [List.getElem?_toArray, List.getElem?_cons_succ, List.getElem?_cons_zero]; rfl)
                case hQ1007 => exact fun _ _ _ h => h
                case hy1007 => (refine Or.inl ⟨by rfl, ?_⟩; intro wq hSw; (try dsimp only at hSw); go_simp; (try with_reducible rfl))
                (try simp only [Act.put, List.setIfInBounds_toArray, List.set_cons_zero, List.set_cons_succ])
                refine wpAnyH_take (i := 7) (oi := ?oi1008) (v := ?v1008) ?hi1008 (by kernel_rfl) (by kernel_rfl) (by kernel_rfl) ?hQ1008 ?hy1008 (by assumption) ?_
                case hi1008 => (simp only [List.getElem?_toArray, List.getElem?_cons_succ, List.getElem?_cons_zero]; rfl)
                case hQ1008 => exact fun _ _ _ h => h
                case hy1008 => (refine Or.inl ⟨by rfl, ?_⟩; intro wq hSw; (try dsimp only at hSw); go_simp; (try with_reducible rfl))
                (try simp only [Act.put, List.setIfInBounds_toArray, List.set_cons_zero, List.set_cons_succ])
                refine wpAnyH_done (by kernel_rfl) ?_ _
                clear hHeld
                rcases okb with _ | _
                · clear HO hP1
                  by_cases hz : zs.length = 0
                  · have e0 : ((zs.length : Int) == 0) = true := by simp [hz]
                    go_wp2_with (first | (go_at_call 26; refine Calls.mono (HO.out _) ?_; rintro e w1 ⟨rfl, hb1⟩; obtain ⟨z, rfl⟩ := hb1.get; clear hb1) | (go_at_call 9; refine (works_any _).mono ?_; rintro e w1 ⟨rfl, hb1⟩; obtain ⟨z, rfl⟩ := hb1.get; clear hb1))
                    go_ret
                    exact ⟨rfl, hE0.tr (by repeat (first | exact Ext.refl' _ | assumption | apply Ext.ex' | apply Ext.al | apply Ext.drN | apply Ext.dr))⟩
                  · have e0 : ((zs.length : Int) == 0) = false := beq_eq_false_iff_ne.2 (by omega)
                    have hdn := hP2 hz
                    go_wp2_with (first | (go_at_call 26; refine Calls.mono (HO.out _) ?_; rintro e w1 ⟨rfl, hb1⟩; obtain ⟨z, rfl⟩ := hb1.get; clear hb1) | (go_at_call 15; refine (depth_any _ _ _ _ _ (hT.ext (by repeat (first | exact Ext.refl' _ | assumption | apply Ext.ex' | apply Ext.al | apply Ext.drN | apply Ext.dr)))).mono ?_; rintro e w1 ⟨rfl, rfl⟩) | (go_at_call 9; refine (works_any _).mono ?_; rintro e w1 ⟨rfl, hb1⟩; obtain ⟨z, rfl⟩ := hb1.get; clear hb1))
                    go_ret
                    exact ⟨rfl, hE0.tr (by repeat (first | exact Ext.refl' _ | assumption | apply Ext.ex' | apply Ext.al | apply Ext.drN | apply Ext.dr))⟩
                · rcases ho : ovlB rc q with _ | _
                  · rw [ho] at HO
                    have hz : zs.length = 0 := (hP1 rfl ho).1
                    have hn1 : nv ≤ 1 := (hP1 rfl ho).2
                    have e0 : ((zs.length : Int) == 0) = true := by simp [hz]
                    clear hP1 hP2
                    go_wp2_with (first | (go_at_call 26; refine Calls.mono (HO.out _) ?_; rintro e w1 ⟨rfl, hb1⟩; obtain ⟨z, rfl⟩ := hb1.get; clear hb1) | (go_at_call 9; refine (works_any _).mono ?_; rintro e w1 ⟨rfl, hb1⟩; obtain ⟨z, rfl⟩ := hb1.get; clear hb1))
                    go_ret
                    exact ⟨rfl, hE0.tr (by repeat (first | exact Ext.refl' _ | assumption | apply Ext.ex' | apply Ext.al | apply Ext.drN | apply Ext.dr))⟩
                  · rw [ho] at HO
                    clear hP1 ho
                    by_cases hz : zs.length = 0
                    · have e0 : ((zs.length : Int) == 0) = true := by simp [hz]
                      go_wp2_with (first | (go_at_call 26; refine Calls.mono (HO.out _) ?_; rintro e w1 ⟨rfl, hb1⟩; obtain ⟨z, rfl⟩ := hb1.get; clear hb1) | (go_at_call 9; refine (works_any _).mono ?_; rintro e w1 ⟨rfl, hb1⟩; obtain ⟨z, rfl⟩ := hb1.get; clear hb1))
                      go_ret
                      exact ⟨rfl, hE0.tr (by repeat (first | exact Ext.refl' _ | assumption | apply Ext.ex' | apply Ext.al | apply Ext.drN | apply Ext.dr))⟩
                    · have e0 : ((zs.length : Int) == 0) = false := beq_eq_false_iff_ne.2 (by omega)
                      have hdn := hP2 hz
                      go_wp2_with (first | (go_at_call 26; refine Calls.mono (HO.out _) ?_; rintro e w1 ⟨rfl, hb1⟩; obtain ⟨z, rfl⟩ := hb1.get; clear hb1) | (go_at_call 15; refine (depth_any _ _ _ _ _ (hT.ext (by repeat (first | exact Ext.refl' _ | assumption | apply Ext.ex' | apply Ext.al | apply Ext.drN | apply Ext.dr)))).mono ?_; rintro e w1 ⟨rfl, rfl⟩) | (go_at_call 9; refine (works_any _).mono ?_; rintro e w1 ⟨rfl, hb1⟩; obtain ⟨z, rfl⟩ := hb1.get; clear hb1))
                      go_ret
                      exact ⟨rfl, hE0.tr (by repeat (first | exact Ext.refl' _ | assumption | apply Ext.ex' | apply Ext.al | apply Ext.drN | apply Ext.dr))⟩

end Go.Proofs.Ytgobmiahhmajdaa
